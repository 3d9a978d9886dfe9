/-
  The store's reference in memory; All, Write, Tell, Open, walked. Conditions: those that each names.
  The store and its reference side by side, as StoreTells calls them; an act's cells. No condition beyond those that each names.
  StoreTells: Few and sane, walked. No condition but the listed variables.
-/
import Derived.Test.YtdegmpigkgkafaaGreatDoorStA
namespace Go.Proofs.YtdegmpigkgkafaaGreatDoor
set_option maxHeartbeats 4000000
set_option maxRecDepth 20000
set_option linter.unusedVariables false
set_option linter.unusedSimpArgs false
set_option linter.unusedSectionVars false
section
open Go.RowKit
def RB (g kg : Nat) (h : Int) : Thing := fun w F => Blk w g 81 [.pointer (some ⟨kg, 0, none⟩), .int .i64 h].toArray ∧ F = ⟨fun k => k = g, fun _ => False⟩
theorem rb_good (g kg : Nat) (h : Int) : Good (RB g kg h) where
 only := by
  rintro w w' F G ⟨h1, rfl⟩ ho hG
  exact ⟨h1.only ho (hG g (.inl rfl)), rfl⟩
 lt := by
  rintro w F ⟨h1, rfl⟩ k (rfl | hk)
  · exact Blk.lt h1
  · exact hk.elim
abbrev RST (c g kg : Nat) (D : Dsk) (h : Int) (J : Jn) : Thing := BothT (RB g kg h) (KT c kg D J)
theorem rst_good (c g kg : Nat) (D : Dsk) (h : Int) (J : Jn) : Good (RST c g kg D h J) := BothT.good (rb_good _ _ _) (kt_good _ _ _ _)
theorem RST.make {w : World} {c g kg : Nat} {D : Dsk} {h : Int} {J : Jn} {F : Foot} (h1 : Blk w g 81 [.pointer (some ⟨kg, 0, none⟩), .int .i64 h].toArray) (h2 : KT c kg D J w F) (s1 : ¬ F.all g) : RST c g kg D h J w ⟨fun k => k = g ∨ F.m k, fun k => False ∨ F.r k⟩ :=
 ⟨⟨fun k => k = g, fun _ => False⟩, F, ⟨h1, rfl⟩, h2, fun k hk => by subst hk; exact s1, fun k hk hG => hG.elim (fun e => by subst e; exact s1 (.inl hk)) id, rfl⟩
def OpenRTo (c : Nat) (r : Dsk × Int × Option Jn) (h : Int) (w : World) (F : Foot) (e : Ending) (w' : World) : Prop :=
 (r.2.2 = none ∧ e = .returned (.tuple #[.pointer none, .int .i64 r.2.1]) ∧ ThingTo (RefT c r.1) w F w') ∨
 ∃ J g kg, r.2.2 = some J ∧ e = .returned (.tuple #[.pointer (some ⟨g, 0, none⟩), .int .i64 r.2.1]) ∧ ThingTo (RST c g kg r.1 h J) w F w'
theorem build_RSto (h : Int) (p : Option Addr) (w : World) : (Instr.build 81 #[(0, .pointer p), (1, .int .i64 h)]).run Tryz.prog w = .ok (.agg #[.pointer p, .int .i64 h]) w := by kernel_rfl
section
variable {w : World} {c g : Nat} {D : Dsk} {J : Jn} {F : Foot}
theorem kt_open (h : KT c g D J w F) : ∃ A cc, Blk w g 79 (kjCells c J A cc) ∧ StrsV w (.slice A J.l.length cc) J.l := by
 obtain ⟨G3, G4, ⟨A, cc, a1, a2, a3, rfl⟩, _⟩ := h
 exact ⟨A, cc, a1, SliceOf.pl (Row.own KStr a2 a3)⟩
theorem k_append (h : KT c g D J w F) (hj : JI J) {t : Str} (ht : t.length ≤ 900000) : Calls Tryz.prog 42 [.pointer (some ⟨g, 0, none⟩), strV t].toArray w (TurnTo (.int .i64 (J.append D t).2.2) (KT c g (J.append D t).1 (J.append D t).2.1) w F) := by
 obtain ⟨G3, G4, ⟨A, cc, a1, a2, a3, rfl⟩, h4, s1, s2, rfl⟩ := h
 exact kAppend_v_ a1 a2 a3 h4 (s1 g (.inl rfl)) (fun k hk => s1 k (.inr hk)) ht hj.1 (Nat.le_trans hj.2.2 (by decide)) (Nat.le_trans hj.ll (by decide)) hj.2.1
theorem k_sync (h : KT c g D J w F) : Calls Tryz.prog 44 [.pointer (some ⟨g, 0, none⟩)].toArray w (TurnTo (.int .i64 (J.sync D).2.2) (KT c g (J.sync D).1 (J.sync D).2.1) w F) := by
 obtain ⟨G3, G4, ⟨A, cc, a1, a2, a3, rfl⟩, h4, s1, s2, rfl⟩ := h
 exact kSync_v_ a1 a2 a3 h4 (s1 g (.inl rfl)) (fun k hk => s1 k (.inr hk))
theorem kopen_s (hd : RefT c D w F) {f : Int} : Calls Tryz.prog 31 [.pointer (some ⟨c, 0, none⟩), .int .i64 f].toArray w fun e w' => ∃ v, e = .returned v ∧
 (((openJ D f).2.2 = none ∧ v = .tuple #[.pointer none, .int .i64 (openJ D f).2.1] ∧ ThingTo (RefT c (openJ D f).1) w F w') ∨ ∃ J kg, (openJ D f).2.2 = some J ∧ v = .tuple #[.pointer (some ⟨kg, 0, none⟩), .int .i64 (openJ D f).2.1] ∧ ThingTo (KT c kg (openJ D f).1 J) w F w') := by
 refine (kOpen_v_ hd (f := f)).mono ?_
 rintro e w' (⟨h1, rfl, ht⟩ | ⟨J, g, h1, rfl, ht⟩)
 · exact ⟨_, rfl, .inl ⟨h1, rfl, ht⟩⟩
 · exact ⟨_, rfl, .inr ⟨J, g, h1, rfl, ht⟩⟩
end
theorem okN.k {S : Nat → Prop} {w w' : World} {m : NM} (h : okN S w m) (o : Only NoF w w') : okN S w' m := h.only o fun _ _ h => h
section
variable {h : Int} {J : Jn} {L : List NM} {m : NM}
theorem good_hd2 (h0 : J.l.all decOk = true) (e : L.map ns = J.l.map decN) (h1 : decide (check L = 0) = true) : goodL h J.l = true ↔ L = [] ∨ hdH L = h := by
 have hc : check (J.l.map decN) = 0 := by rw [← check_eq e]; exact of_decide_eq_true h1
 rw [good_hd h0 hc, ← e]
 have e2 : hdH (L.map ns) = hdH L := by cases L <;> rfl
 rw [e2]
 have e3 : J.l = [] ↔ L = [] := by
  rw [← List.map_eq_nil_iff (f := decN) (l := J.l), ← e, List.map_eq_nil_iff]
 rw [e3]
theorem good_h1 (h0 : J.l.all decOk = true) (e : L.map ns = J.l.map decN) (h1 : decide (check L = 0) = true) (hp : decide ((0 : Int) < ((L.length : Nat) : Int)) = false) : goodL h J.l = true := by
 rw [good_hd2 h0 e h1]
 have := of_decide_eq_false hp
 exact .inl (List.eq_nil_of_length_eq_zero (by omega))
theorem hd_take (hm : (List.take 1 L)[0]? = some m) : L ≠ [] ∧ hdH L = m.h := by
 cases L with
 | nil => simp at hm
 | cons a l => simp at hm; subst hm; exact ⟨by simp, rfl⟩
theorem good_h2 (h0 : J.l.all decOk = true) (e : L.map ns = J.l.map decN) (h1 : decide (check L = 0) = true) (hm : (List.take 1 L)[0]? = some m) (h2 : (!decide (m.h = h)) = false) : goodL h J.l = true := by
 rw [good_hd2 h0 e h1, (hd_take hm).2]
 exact .inr (of_decide_eq_true (nt_f h2))
theorem good_h3 (h0 : J.l.all decOk = true) (e : L.map ns = J.l.map decN) (h1 : decide (check L = 0) = true) (hm : (List.take 1 L)[0]? = some m) (h2 : (!decide (m.h = h)) = true) : goodL h J.l = false := by
 rw [← Bool.not_eq_true, good_hd2 h0 e h1, (hd_take hm).2]
 rintro (h3 | h3)
 · exact (hd_take hm).1 h3
 · exact of_decide_eq_false (nt_t h2) h3
end
theorem rAll_v_ {w : World} {c kg g : Nat} {D : Dsk} {h : Int} {J : Jn} {F : Foot} (hB : Blk w g 81 [.pointer (some ⟨kg, 0, none⟩), .int .i64 h].toArray) (hkt : KT c kg D J w F) (s1 : ¬ F.all g) (hsi : SI h J) : Calls Tryz.prog 24 [.pointer (some ⟨g, 0, none⟩)].toArray w (AllN (J.l.map decN) w) := by
 have hsl := si_len hsi
 have hok := (good_iff.1 hsi.2).1
 refine calls_start Tryz.func24 rfl rfl ?_
 intro az Z
 rw [Tryz.ntmps24] at Z
 refine wp_seq_k fun _ k1 => wp_region_lit ?_
 refine L (r_as Z rfl) Z rfl ?_; clear Z az; intro az Z
 refine k1 _ _ (wp_seq_k fun _ k2 => wp_region_lit ?_)
 refine L (r_mv Z rfl) Z rfl ?_; clear Z az; intro az Z
 refine L (r_nilP Z rfl) Z rfl ?_; clear Z az; intro az Z
 refine L (r_fa (m' := 0) Tryz.underlying81 rfl Tryz.sizeOf75 rfl Z rfl rfl) Z rfl ?_; clear Z az; intro az Z
 refine L (r_ld Tryz.isAgg75 Z rfl ((Blk.ca hB) 0 _ rfl)) Z rfl ?_; clear Z az; intro az Z
 obtain ⟨A3, c4, hB5, hR6⟩ := kt_open hkt
 refine L (r_nilP Z rfl) Z rfl ?_; clear Z az; intro az Z
 refine L (r_fa (m' := 2) Tryz.underlying79 rfl Tryz.sizeOf68 rfl Z rfl rfl) Z rfl ?_; clear Z az; intro az Z
 refine L (r_ld Tryz.isAgg68 Z rfl ((Blk.ca hB5) 2 _ rfl)) Z rfl ?_; clear Z az; intro az Z
 refine LC Z rfl rfl Tryz.call32 (rNotes_v hR6 hsi.1.2.1 (Nat.le_trans (JI.ll hsi.1) (by decide))) rfl ?_
 rintro e w7 ⟨A8, c9, L10, rfl, r11, hN12, hL13, o14⟩; refine ⟨_, rfl, ?_⟩
 clear Z az; intro az Z
 refine L (r_mv Z rfl) Z rfl ?_; clear Z az; intro az Z
 refine L (r_ex Z rfl rfl) Z rfl ?_; clear Z az; intro az Z
 refine L (r_ex Z rfl rfl) Z rfl ?_; clear Z az; intro az Z
 refine L (r_as Z rfl) Z rfl ?_; clear Z az; intro az Z
 refine L (r_as Z rfl) Z rfl ?_; clear Z az; intro az Z
 refine k2 _ _ (wp_seq_k fun _ k15 => wp_region_lit ?_)
 refine L (r_mv Z rfl) Z rfl ?_; clear Z az; intro az Z
 refine L (r_as Z rfl) Z rfl ?_; clear Z az; intro az Z
 refine k15 _ _ ?_
 refine wp_ret ?_
 show bodyPost _ _ _ .ret _ _
 refine ret_of (vs := [.slice A8 (L10.length) c9]) Z Tryz.results24 ⟨rfl, trivial⟩ ?_
 exact ⟨A8, c9, L10, rfl, hL13 hok, r11, OkNs.k hN12 (Only.refl NoF w7), o14⟩
theorem rWrite_n_ {w : World} {c kg g : Nat} {D : Dsk} {h : Int} {J : Jn} {F : Foot} (hB : Blk w g 81 [.pointer (some ⟨kg, 0, none⟩), .int .i64 h].toArray) (hkt : KT c kg D J w F) (s1 : ¬ F.all g) (hsi : SI h J) {d : Int} {q : List RM} {t : Str} {A2 : Option Addr} {c2 : Nat} (f2 : RefsV w (.slice A2 q.length c2) q) (hh : I64 h) (hd : I64 d) (ht : t.length ≤ maxLen) (hq : q.length ≤ 1000) (hz : check (J.l.map decN ++ [newN h J.l d q t]) ≠ 0) : Calls Tryz.prog 19 [.pointer (some ⟨g, 0, none⟩), .int .i64 d, .slice A2 q.length c2, strV t].toArray w (TurnTo (.int .i64 (J.writeS D h d q t).2.2) (KT c kg (J.writeS D h d q t).1 (J.writeS D h d q t).2.1) w F) := by
 have hsl := si_len hsi
 have hok := (good_iff.1 hsi.2).1
 refine calls_start Tryz.func19 rfl rfl ?_
 intro az Z
 rw [Tryz.ntmps19] at Z
 refine wp_seq_k fun _ k1 => wp_region_lit ?_
 refine L (r_as Z rfl) Z rfl ?_; clear Z az; intro az Z
 refine k1 _ _ (wp_seq_k fun _ k2 => ?_)
 refine reg_p NoF 3 [1, 9, 13, 14] (.rd 0 (.rd 2 (.rd 3 (.rd 4 (.rd 5 (.rd 6 (.rd 7 (.rd 8 (.fork 1 (.fork 9 (.rd 10 (.rd 11 (.rd 12 (.ex 13 (.ex 14 (.rd 15 .nil)))))) 13 (.ex 9 (.rd 10 (.rd 11 (.rd 12 (.ex 14 (.rd 15 .nil))))))) 13 (.ex 1 (.ex 9 (.rd 10 (.rd 11 (.rd 12 (.ex 14 (.rd 15 .nil)))))))))))))))) (by kernel_rfl) (by kernel_rfl) (fun _ _ _ _ _ h => h) fun w3 o4 => ?_
 have B5 := (Blk.k hB o4)
 refine Pl.MSP (b := true) (by kernel_rfl) (fun W oW => r_mv Z rfl) Z rfl rfl ?_; clear Z az; intro az Z
 refine Pl.MSP (b := true) (by kernel_rfl) (fun W oW => r_mv Z rfl) Z rfl rfl ?_; clear Z az; intro az Z
 refine Pl.MSP (b := true) (by kernel_rfl) (fun W oW => r_nilP Z rfl) Z rfl rfl ?_; clear Z az; intro az Z
 refine Pl.MSP (b := true) (by kernel_rfl) (fun W oW => r_fa (m' := 1) Tryz.underlying81 rfl Tryz.sizeOf3 rfl Z rfl rfl) Z rfl rfl ?_; clear Z az; intro az Z
 refine Pl.MSP (b := true) (by kernel_rfl) (fun W oW => r_ld Tryz.isAgg3 Z rfl ((Blk.ca (Blk.k B5 oW)) 1 _ rfl)) Z rfl rfl ?_; clear Z az; intro az Z
 refine Pl.MSP (b := true) (by kernel_rfl) (fun W oW => r_mv Z rfl) Z rfl rfl ?_; clear Z az; intro az Z
 refine Pl.MSP (b := true) (by kernel_rfl) (fun W oW => r_mv Z rfl) Z rfl rfl ?_; clear Z az; intro az Z
 refine Pl.MSP (b := true) (by kernel_rfl) (fun W oW => r_mv Z rfl) Z rfl rfl ?_; clear Z az; intro az Z
 refine wpPl_fork ?_ ?_
 ·
  have T14 : (KT c kg D J) w3 F := ((kt_good c kg D J).only hkt o4 (fun _ _ h => h))
  refine Pl.MSC Z rfl rfl rfl Tryz.call24 (rAll_v_ B5 T14 s1 hsi) rfl ?_
  rintro e w6 ⟨A8, c9, L10, rfl, hL11, r12, hN13, o7⟩
  refine ⟨_, rfl, ⟨fun _ => o7, (Only.trans (Only.refl NoF w3) o7 (fun _ h => h.elim))⟩, ?_⟩
  clear Z az; intro az Z
  refine wpPl_fork ?_ ?_
  ·
   have hlL : L10.length = J.l.length := by have := congrArg List.length hL11; rwa [List.length_map, List.length_map] at this
   have O15 : Only NoF w w6 := (Only.trans' o4 o7)
   refine Pl.MSV (v := .tuple #[.agg #[.int .i64 (0), .int .i64 (0), .int .i64 (0), .slice none (0) 0, strV ([])], .int .i64 ((check (J.l.map decN ++ [newN h J.l d q t])))]) Z rfl rfl rfl Tryz.call40 (rNext_n (notes_of r12 (OkNs.k hN13 (Only.refl NoF w6))) (SliceOf.kp f2 O15 (fun _ _ h => h) (fun _ _ _ _ h => h)) hh hd ht (by omega) (by omega) hL11 hz) rfl (fun w' o' => ⟨fun _ => (Only.trans' o7 o'), (Only.trans (Only.trans (Only.refl NoF w3) o7 (fun _ h => h.elim)) o' (fun _ h => h.elim))⟩) fun w16 o17 => ?_; clear Z az; intro az Z
   refine Pl.MSP (b := true) (by kernel_rfl) (fun W oW => r_mv Z rfl) Z rfl rfl ?_; clear Z az; intro az Z
   refine Pl.MSP (b := true) (by kernel_rfl) (fun W oW => r_ex Z rfl rfl) Z rfl rfl ?_; clear Z az; intro az Z
   refine Pl.MSP (b := false) (by kernel_rfl) (fun W oW => r_ex Z rfl rfl) Z rfl rfl ?_; clear Z az; intro az Z
   obtain ⟨g18, w19, hw, hA, hg22, hl23, o20, B21⟩ := newBlk (w := w16) (e := 51) (cs := [.int .i64 (0), .int .i64 (0), .int .i64 (0), .slice none (0) 0, strV ([])])
   refine Pl.MD (r_al (v := .agg #[.int .i64 (0), .int .i64 (0), .int .i64 (0), .slice none (0) 0, strV ([])]) Tryz.zeroValue51 rfl) Z rfl rfl ?_ ?_
   · rw [← hw]; exact ⟨fun _ => (Only.trans' (Only.trans' o7 o17) o20), (Only.trans (Only.trans (Only.trans (Only.refl NoF w3) o7 (fun _ h => h.elim)) o17 (fun _ h => h.elim)) o20 (fun _ h => h.elim))⟩
   rw [← hw, ← hA]; clear Z az; intro az Z
   clear hw hA
   refine Pl.MSS (cs' := [.int .i64 (0), .int .i64 (0), .int .i64 (0), .slice none (0) 0, strV ([])]) Tryz.sizeOf51 Z rfl rfl rfl rfl rfl rfl ⟨rfl, rfl, rfl, rfl, rfl, trivial⟩ B21 rfl rfl fun w24 s25 B26 => ?_
   have O27 : Only NoF w3 w16 := (Only.trans' o7 o17)
   refine ⟨⟨fun h => absurd h (by decide), (Only.trans (Only.trans (Only.trans (Only.trans (Only.refl NoF w3) o7 (fun _ h => h.elim)) o17 (fun _ h => h.elim)) o20 (fun _ h => h.elim)) s25 (fun k h => .inr (Nat.le_trans (size_only O27) ((oneF_ge hg22) k h))))⟩, ?_⟩
   refine Pl.MSP (b := false) (by kernel_rfl) (fun W oW => r_as Z rfl) Z rfl rfl ?_; clear Z az; intro az Z
   refine wpPl_nil ?_
   refine k2 _ _ (wp_seq_k fun _ k28 => ?_)
   refine wp_seq_k fun _ k29 => wp_region_lit ?_
   refine L (r_mv Z rfl) Z rfl ?_; clear Z az; intro az Z
   refine L (r_neI Z rfl rfl) Z rfl ?_; clear Z az; intro az Z
   refine k29 _ _ ?_
   refine br Z rfl (fun hc30 => ?_) (fun hc30 => ?_)
   ·
    have p31 := of_decide_eq_false (nt_t hc30)
    refine wp_seq_k fun _ k32 => wp_region_lit ?_
    refine L (r_mv Z rfl) Z rfl ?_; clear Z az; intro az Z
    refine L (r_as Z rfl) Z rfl ?_; clear Z az; intro az Z
    refine k32 _ _ ?_
    refine wp_ret ?_
    show bodyPost _ _ _ .ret _ _
    refine ret_of (vs := [.int .i64 ((check (J.l.map decN ++ [newN h J.l d q t])))]) Z Tryz.results19 ⟨rfl, trivial⟩ ?_
    have O33 : Only NoF w3 w19 := (Only.trans' O27 o20)
    have O34 : Only NoF w w16 := (Only.trans' O15 o17)
    have T35 : (KT c kg D J) w24 F := ((kt_good c kg D J).only ((kt_good c kg D J).only T14 O33 (fun _ _ h => h)) s25 (fun k hk (e : k = g18) => (fun h => absurd ((kt_good c kg D J).lt hkt _ h) (Nat.not_lt.2 (Nat.le_trans (size_only O34) hg22))) (by rw [← e]; exact hk)))
    rw [writeS_n hz]; exact ⟨rfl, ⟨F, T35, (Only.trans (Only.trans (Only.trans (Only.trans (Only.trans (Only.refl _ w) o4 (fun _ h => h.elim)) o7 (fun _ h => h.elim)) o17 (fun _ h => h.elim)) o20 (fun _ h => h.elim)) s25 (fun k h => .inr (Nat.le_trans (size_only O34) ((oneF_ge hg22) k h)))), (fun k hk => (.inl hk)), (fun k hk => (.inl hk))⟩⟩
   ·
    have p36 := of_decide_eq_true (nt_f hc30)
    exact absurd (of_decide_eq_true (nt_f hc30)) hz
  ·
   obtain ⟨g37, w38, hw, hA, hg41, hl42, o39, B40⟩ := newBlk (w := w6) (e := 51) (cs := [.int .i64 (0), .int .i64 (0), .int .i64 (0), .slice none (0) 0, strV ([])])
   refine Pl.MD (r_al (v := .agg #[.int .i64 (0), .int .i64 (0), .int .i64 (0), .slice none (0) 0, strV ([])]) Tryz.zeroValue51 rfl) Z rfl rfl ?_ ?_
   · rw [← hw]; exact ⟨fun _ => (Only.trans' o7 o39), (Only.trans (Only.trans (Only.refl NoF w3) o7 (fun _ h => h.elim)) o39 (fun _ h => h.elim))⟩
   rw [← hw, ← hA]; clear Z az; intro az Z
   clear hw hA
   have hlL : L10.length = J.l.length := by have := congrArg List.length hL11; rwa [List.length_map, List.length_map] at this
   have r43 := (ow_k r12 o39)
   have O44 : Only NoF w w38 := (Only.trans' (Only.trans' o4 o7) o39)
   refine Pl.MSV (v := .tuple #[.agg #[.int .i64 (0), .int .i64 (0), .int .i64 (0), .slice none (0) 0, strV ([])], .int .i64 ((check (J.l.map decN ++ [newN h J.l d q t])))]) Z rfl rfl rfl Tryz.call40 (rNext_n (notes_of r43 (OkNs.k hN13 o39)) (SliceOf.kp f2 O44 (fun _ _ h => h) (fun _ _ _ _ h => h)) hh hd ht (by omega) (by omega) hL11 hz) rfl (fun w' o' => ⟨fun _ => (Only.trans' (Only.trans' o7 o39) o'), (Only.trans (Only.trans (Only.trans (Only.refl NoF w3) o7 (fun _ h => h.elim)) o39 (fun _ h => h.elim)) o' (fun _ h => h.elim))⟩) fun w45 o46 => ?_; clear Z az; intro az Z
   refine Pl.MSP (b := true) (by kernel_rfl) (fun W oW => r_mv Z rfl) Z rfl rfl ?_; clear Z az; intro az Z
   refine Pl.MSP (b := true) (by kernel_rfl) (fun W oW => r_ex Z rfl rfl) Z rfl rfl ?_; clear Z az; intro az Z
   refine Pl.MSP (b := false) (by kernel_rfl) (fun W oW => r_ex Z rfl rfl) Z rfl rfl ?_; clear Z az; intro az Z
   have B47 := (Blk.k B40 o46)
   refine Pl.MSS (cs' := [.int .i64 (0), .int .i64 (0), .int .i64 (0), .slice none (0) 0, strV ([])]) Tryz.sizeOf51 Z rfl rfl rfl rfl rfl rfl ⟨rfl, rfl, rfl, rfl, rfl, trivial⟩ B47 rfl rfl fun w48 s49 B50 => ?_
   refine ⟨⟨fun h => absurd h (by decide), (Only.trans (Only.trans (Only.trans (Only.trans (Only.refl NoF w3) o7 (fun _ h => h.elim)) o39 (fun _ h => h.elim)) o46 (fun _ h => h.elim)) s49 (fun k h => .inr (Nat.le_trans (size_only o7) ((oneF_ge hg41) k h))))⟩, ?_⟩
   refine Pl.MSP (b := false) (by kernel_rfl) (fun W oW => r_as Z rfl) Z rfl rfl ?_; clear Z az; intro az Z
   refine wpPl_nil ?_
   refine k2 _ _ (wp_seq_k fun _ k51 => ?_)
   refine wp_seq_k fun _ k52 => wp_region_lit ?_
   refine L (r_mv Z rfl) Z rfl ?_; clear Z az; intro az Z
   refine L (r_neI Z rfl rfl) Z rfl ?_; clear Z az; intro az Z
   refine k52 _ _ ?_
   refine br Z rfl (fun hc53 => ?_) (fun hc53 => ?_)
   ·
    have p54 := of_decide_eq_false (nt_t hc53)
    refine wp_seq_k fun _ k55 => wp_region_lit ?_
    refine L (r_mv Z rfl) Z rfl ?_; clear Z az; intro az Z
    refine L (r_as Z rfl) Z rfl ?_; clear Z az; intro az Z
    refine k55 _ _ ?_
    refine wp_ret ?_
    show bodyPost _ _ _ .ret _ _
    refine ret_of (vs := [.int .i64 ((check (J.l.map decN ++ [newN h J.l d q t])))]) Z Tryz.results19 ⟨rfl, trivial⟩ ?_
    have O56 : Only NoF w3 w45 := (Only.trans' (Only.trans' o7 o39) o46)
    have O57 : Only NoF w w6 := (Only.trans' o4 o7)
    have T58 : (KT c kg D J) w48 F := ((kt_good c kg D J).only ((kt_good c kg D J).only T14 O56 (fun _ _ h => h)) s49 (fun k hk (e : k = g37) => (fun h => absurd ((kt_good c kg D J).lt hkt _ h) (Nat.not_lt.2 (Nat.le_trans (size_only O57) hg41))) (by rw [← e]; exact hk)))
    rw [writeS_n hz]; exact ⟨rfl, ⟨F, T58, (Only.trans (Only.trans (Only.trans (Only.trans (Only.trans (Only.refl _ w) o4 (fun _ h => h.elim)) o7 (fun _ h => h.elim)) o39 (fun _ h => h.elim)) o46 (fun _ h => h.elim)) s49 (fun k h => .inr (Nat.le_trans (size_only O57) ((oneF_ge hg41) k h)))), (fun k hk => (.inl hk)), (fun k hk => (.inl hk))⟩⟩
   ·
    have p59 := of_decide_eq_true (nt_f hc53)
    exact absurd (of_decide_eq_true (nt_f hc53)) hz
 ·
  obtain ⟨g60, w61, hw, hA, hg64, hl65, o62, B63⟩ := newBlk (w := w3) (e := 51) (cs := [.int .i64 (0), .int .i64 (0), .int .i64 (0), .slice none (0) 0, strV ([])])
  refine Pl.MD (r_al (v := .agg #[.int .i64 (0), .int .i64 (0), .int .i64 (0), .slice none (0) 0, strV ([])]) Tryz.zeroValue51 rfl) Z rfl rfl ?_ ?_
  · rw [← hw]; exact ⟨fun _ => o62, (Only.trans (Only.refl NoF w3) o62 (fun _ h => h.elim))⟩
  rw [← hw, ← hA]; clear Z az; intro az Z
  clear hw hA
  have B74 := (Blk.k B5 o62)
  have O75 : Only NoF w w61 := (Only.trans' o4 o62)
  have T76 : (KT c kg D J) w61 F := ((kt_good c kg D J).only hkt O75 (fun _ _ h => h))
  refine Pl.MSC Z rfl rfl rfl Tryz.call24 (rAll_v_ B74 T76 s1 hsi) rfl ?_
  rintro e w66 ⟨A68, c69, L70, rfl, hL71, r72, hN73, o67⟩
  refine ⟨_, rfl, ⟨fun _ => (Only.trans' o62 o67), (Only.trans (Only.trans (Only.refl NoF w3) o62 (fun _ h => h.elim)) o67 (fun _ h => h.elim))⟩, ?_⟩
  clear Z az; intro az Z
  have hlL : L70.length = J.l.length := by have := congrArg List.length hL71; rwa [List.length_map, List.length_map] at this
  have O77 : Only NoF w w66 := (Only.trans' O75 o67)
  refine Pl.MSV (v := .tuple #[.agg #[.int .i64 (0), .int .i64 (0), .int .i64 (0), .slice none (0) 0, strV ([])], .int .i64 ((check (J.l.map decN ++ [newN h J.l d q t])))]) Z rfl rfl rfl Tryz.call40 (rNext_n (notes_of r72 (OkNs.k hN73 (Only.refl NoF w66))) (SliceOf.kp f2 O77 (fun _ _ h => h) (fun _ _ _ _ h => h)) hh hd ht (by omega) (by omega) hL71 hz) rfl (fun w' o' => ⟨fun _ => (Only.trans' (Only.trans' o62 o67) o'), (Only.trans (Only.trans (Only.trans (Only.refl NoF w3) o62 (fun _ h => h.elim)) o67 (fun _ h => h.elim)) o' (fun _ h => h.elim))⟩) fun w78 o79 => ?_; clear Z az; intro az Z
  refine Pl.MSP (b := true) (by kernel_rfl) (fun W oW => r_mv Z rfl) Z rfl rfl ?_; clear Z az; intro az Z
  refine Pl.MSP (b := true) (by kernel_rfl) (fun W oW => r_ex Z rfl rfl) Z rfl rfl ?_; clear Z az; intro az Z
  refine Pl.MSP (b := false) (by kernel_rfl) (fun W oW => r_ex Z rfl rfl) Z rfl rfl ?_; clear Z az; intro az Z
  have B80 := (Blk.k (Blk.k B63 o67) o79)
  refine Pl.MSS (cs' := [.int .i64 (0), .int .i64 (0), .int .i64 (0), .slice none (0) 0, strV ([])]) Tryz.sizeOf51 Z rfl rfl rfl rfl rfl rfl ⟨rfl, rfl, rfl, rfl, rfl, trivial⟩ B80 rfl rfl fun w81 s82 B83 => ?_
  refine ⟨⟨fun h => absurd h (by decide), (Only.trans (Only.trans (Only.trans (Only.trans (Only.refl NoF w3) o62 (fun _ h => h.elim)) o67 (fun _ h => h.elim)) o79 (fun _ h => h.elim)) s82 (fun k h => .inr (Nat.le_trans (Nat.le_refl _) ((oneF_ge hg64) k h))))⟩, ?_⟩
  refine Pl.MSP (b := false) (by kernel_rfl) (fun W oW => r_as Z rfl) Z rfl rfl ?_; clear Z az; intro az Z
  refine wpPl_nil ?_
  refine k2 _ _ (wp_seq_k fun _ k84 => ?_)
  refine wp_seq_k fun _ k85 => wp_region_lit ?_
  refine L (r_mv Z rfl) Z rfl ?_; clear Z az; intro az Z
  refine L (r_neI Z rfl rfl) Z rfl ?_; clear Z az; intro az Z
  refine k85 _ _ ?_
  refine br Z rfl (fun hc86 => ?_) (fun hc86 => ?_)
  ·
   have p87 := of_decide_eq_false (nt_t hc86)
   refine wp_seq_k fun _ k88 => wp_region_lit ?_
   refine L (r_mv Z rfl) Z rfl ?_; clear Z az; intro az Z
   refine L (r_as Z rfl) Z rfl ?_; clear Z az; intro az Z
   refine k88 _ _ ?_
   refine wp_ret ?_
   show bodyPost _ _ _ .ret _ _
   refine ret_of (vs := [.int .i64 ((check (J.l.map decN ++ [newN h J.l d q t])))]) Z Tryz.results19 ⟨rfl, trivial⟩ ?_
   have O89 : Only NoF w61 w78 := (Only.trans' o67 o79)
   have T90 : (KT c kg D J) w81 F := ((kt_good c kg D J).only ((kt_good c kg D J).only T76 O89 (fun _ _ h => h)) s82 (fun k hk (e : k = g60) => (fun h => absurd ((kt_good c kg D J).lt hkt _ h) (Nat.not_lt.2 (Nat.le_trans (size_only o4) hg64))) (by rw [← e]; exact hk)))
   rw [writeS_n hz]; exact ⟨rfl, ⟨F, T90, (Only.trans (Only.trans (Only.trans (Only.trans (Only.trans (Only.refl _ w) o4 (fun _ h => h.elim)) o62 (fun _ h => h.elim)) o67 (fun _ h => h.elim)) o79 (fun _ h => h.elim)) s82 (fun k h => .inr (Nat.le_trans (size_only o4) ((oneF_ge hg64) k h)))), (fun k hk => (.inl hk)), (fun k hk => (.inl hk))⟩⟩
  ·
   have p91 := of_decide_eq_true (nt_f hc86)
   exact absurd (of_decide_eq_true (nt_f hc86)) hz
theorem rWrite_y_ {w : World} {c kg g : Nat} {D : Dsk} {h : Int} {J : Jn} {F : Foot} (hB : Blk w g 81 [.pointer (some ⟨kg, 0, none⟩), .int .i64 h].toArray) (hkt : KT c kg D J w F) (s1 : ¬ F.all g) (hsi : SI h J) {d : Int} {q : List RM} {t : Str} {A2 : Option Addr} {c2 : Nat} (f2 : RefsV w (.slice A2 q.length c2) q) (hh : I64 h) (hd : I64 d) (ht : t.length ≤ maxLen) (hq : q.length ≤ 1000) (hq2 : ∀ r ∈ q, I64 r.h ∧ I64 r.n) (hz : check (J.l.map decN ++ [newN h J.l d q t]) = 0) : Calls Tryz.prog 19 [.pointer (some ⟨g, 0, none⟩), .int .i64 d, .slice A2 q.length c2, strV t].toArray w (TurnTo (.int .i64 (J.writeS D h d q t).2.2) (KT c kg (J.writeS D h d q t).1 (J.writeS D h d q t).2.1) w F) := by
 have hsl := si_len hsi
 have hok := (good_iff.1 hsi.2).1
 refine calls_start Tryz.func19 rfl rfl ?_
 intro az Z
 rw [Tryz.ntmps19] at Z
 refine wp_seq_k fun _ k1 => wp_region_lit ?_
 refine L (r_as Z rfl) Z rfl ?_; clear Z az; intro az Z
 refine k1 _ _ ?_
 refine wp_join (fun az W => ∃ mj : NM, ∃ g9 : Nat, Fr 40 [(0, .pointer (some ((⟨g, 0, none⟩ : Addr)))), (9, .pointer (some ((⟨g9, 0, none⟩ : Addr)))), (10, .int .i64 (0))] az ∧ (ns mj = newN h J.l d q t) ∧ (w.heap.size ≤ g9) ∧ Only NoF w W ∧ Blk W g9 51 [.int .i64 (mj.h), .int .i64 (mj.n), .int .i64 (mj.d), .slice mj.A (mj.l.length) mj.c, strV (mj.s)].toArray ∧ okN (geB w.heap.size) W mj) ?_ ?_
 ·
  refine reg_p NoF 3 [1, 9, 13, 14] (.rd 0 (.rd 2 (.rd 3 (.rd 4 (.rd 5 (.rd 6 (.rd 7 (.rd 8 (.fork 1 (.fork 9 (.rd 10 (.rd 11 (.rd 12 (.ex 13 (.ex 14 (.rd 15 .nil)))))) 13 (.ex 9 (.rd 10 (.rd 11 (.rd 12 (.ex 14 (.rd 15 .nil))))))) 13 (.ex 1 (.ex 9 (.rd 10 (.rd 11 (.rd 12 (.ex 14 (.rd 15 .nil)))))))))))))))) (by kernel_rfl) (by kernel_rfl) (fun _ _ _ _ _ h => h) fun w2 o3 => ?_
  have B4 := (Blk.k hB o3)
  refine Pl.MSP (b := true) (by kernel_rfl) (fun W oW => r_mv Z rfl) Z rfl rfl ?_; clear Z az; intro az Z
  refine Pl.MSP (b := true) (by kernel_rfl) (fun W oW => r_mv Z rfl) Z rfl rfl ?_; clear Z az; intro az Z
  refine Pl.MSP (b := true) (by kernel_rfl) (fun W oW => r_nilP Z rfl) Z rfl rfl ?_; clear Z az; intro az Z
  refine Pl.MSP (b := true) (by kernel_rfl) (fun W oW => r_fa (m' := 1) Tryz.underlying81 rfl Tryz.sizeOf3 rfl Z rfl rfl) Z rfl rfl ?_; clear Z az; intro az Z
  refine Pl.MSP (b := true) (by kernel_rfl) (fun W oW => r_ld Tryz.isAgg3 Z rfl ((Blk.ca (Blk.k B4 oW)) 1 _ rfl)) Z rfl rfl ?_; clear Z az; intro az Z
  refine Pl.MSP (b := true) (by kernel_rfl) (fun W oW => r_mv Z rfl) Z rfl rfl ?_; clear Z az; intro az Z
  refine Pl.MSP (b := true) (by kernel_rfl) (fun W oW => r_mv Z rfl) Z rfl rfl ?_; clear Z az; intro az Z
  refine Pl.MSP (b := true) (by kernel_rfl) (fun W oW => r_mv Z rfl) Z rfl rfl ?_; clear Z az; intro az Z
  refine wpPl_fork ?_ ?_
  ·
   have T13 : (KT c kg D J) w2 F := ((kt_good c kg D J).only hkt o3 (fun _ _ h => h))
   refine Pl.MSC Z rfl rfl rfl Tryz.call24 (rAll_v_ B4 T13 s1 hsi) rfl ?_
   rintro e w5 ⟨A7, c8, L9, rfl, hL10, r11, hN12, o6⟩
   refine ⟨_, rfl, ⟨fun _ => o6, (Only.trans (Only.refl NoF w2) o6 (fun _ h => h.elim))⟩, ?_⟩
   clear Z az; intro az Z
   refine wpPl_fork ?_ ?_
   ·
    have hlL : L9.length = J.l.length := by have := congrArg List.length hL10; rwa [List.length_map, List.length_map] at this
    have O19 : Only NoF w w5 := (Only.trans' o3 o6)
    refine Pl.MSC Z rfl rfl rfl Tryz.call40 (rNext_y (notes_of r11 (OkNs.k hN12 (Only.refl NoF w5))) (SliceOf.kp f2 O19 (fun _ _ h => h) (fun _ _ _ _ h => h)) hh hd ht (by omega) (by omega) hL10 hz) rfl ?_
    rintro e w14 ⟨m16, hm17, rfl, o15, ok18⟩
    refine ⟨_, rfl, ⟨fun _ => (Only.trans' o6 o15), (Only.trans (Only.trans (Only.refl NoF w2) o6 (fun _ h => h.elim)) o15 (fun _ h => h.elim))⟩, ?_⟩
    clear Z az; intro az Z
    refine Pl.MSP (b := true) (by kernel_rfl) (fun W oW => r_mv Z rfl) Z rfl rfl ?_; clear Z az; intro az Z
    refine Pl.MSP (b := true) (by kernel_rfl) (fun W oW => r_ex Z rfl rfl) Z rfl rfl ?_; clear Z az; intro az Z
    refine Pl.MSP (b := false) (by kernel_rfl) (fun W oW => r_ex Z rfl rfl) Z rfl rfl ?_; clear Z az; intro az Z
    obtain ⟨g20, w21, hw, hA, hg24, hl25, o22, B23⟩ := newBlk (w := w14) (e := 51) (cs := [.int .i64 (0), .int .i64 (0), .int .i64 (0), .slice none (0) 0, strV ([])])
    refine Pl.MD (r_al (v := .agg #[.int .i64 (0), .int .i64 (0), .int .i64 (0), .slice none (0) 0, strV ([])]) Tryz.zeroValue51 rfl) Z rfl rfl ?_ ?_
    · rw [← hw]; exact ⟨fun _ => (Only.trans' (Only.trans' o6 o15) o22), (Only.trans (Only.trans (Only.trans (Only.refl NoF w2) o6 (fun _ h => h.elim)) o15 (fun _ h => h.elim)) o22 (fun _ h => h.elim))⟩
    rw [← hw, ← hA]; clear Z az; intro az Z
    clear hw hA
    refine Pl.MSS (cs' := [.int .i64 (m16.h), .int .i64 (m16.n), .int .i64 (m16.d), .slice m16.A (m16.l.length) m16.c, strV (m16.s)]) Tryz.sizeOf51 Z rfl rfl rfl rfl rfl rfl ⟨rfl, rfl, rfl, rfl, rfl, trivial⟩ B23 rfl rfl fun w26 s27 B28 => ?_
    have O29 : Only NoF w2 w14 := (Only.trans' o6 o15)
    refine ⟨⟨fun h => absurd h (by decide), (Only.trans (Only.trans (Only.trans (Only.trans (Only.refl NoF w2) o6 (fun _ h => h.elim)) o15 (fun _ h => h.elim)) o22 (fun _ h => h.elim)) s27 (fun k h => .inr (Nat.le_trans (size_only O29) ((oneF_ge hg24) k h))))⟩, ?_⟩
    refine Pl.MSP (b := false) (by kernel_rfl) (fun W oW => r_as Z rfl) Z rfl rfl ?_; clear Z az; intro az Z
    refine wpPl_nil ?_
    have O30 : Only NoF w w14 := (Only.trans' O19 o15)
    have O31 : Only NoF w w26 := (o_sg (Only.trans' O30 o22) s27 (size_only O30) (oneF_ge hg24))
    exact ⟨m16, g20, Z.cut ⟨rfl, rfl, rfl, trivial⟩, hm17, (Nat.le_trans (size_only O30) hg24), O31, B28, (okN.sup (okN.only (okN.lt2 ok18) (Only.trans (Only.trans (Only.refl (fun k => k < w5.heap.size) w14) o22 (fun _ h => h.elim)) s27 (fun k h => .inr (Nat.le_trans (Nat.le_refl _) ((oneF_ge hg24) k h)))) (fun k hk => Nat.not_lt.2 hk.1)) fun k hk => Nat.le_trans (size_only O19) hk.1)⟩
   ·
    obtain ⟨g32, w33, hw, hA, hg36, hl37, o34, B35⟩ := newBlk (w := w5) (e := 51) (cs := [.int .i64 (0), .int .i64 (0), .int .i64 (0), .slice none (0) 0, strV ([])])
    refine Pl.MD (r_al (v := .agg #[.int .i64 (0), .int .i64 (0), .int .i64 (0), .slice none (0) 0, strV ([])]) Tryz.zeroValue51 rfl) Z rfl rfl ?_ ?_
    · rw [← hw]; exact ⟨fun _ => (Only.trans' o6 o34), (Only.trans (Only.trans (Only.refl NoF w2) o6 (fun _ h => h.elim)) o34 (fun _ h => h.elim))⟩
    rw [← hw, ← hA]; clear Z az; intro az Z
    clear hw hA
    have hlL : L9.length = J.l.length := by have := congrArg List.length hL10; rwa [List.length_map, List.length_map] at this
    have r43 := (ow_k r11 o34)
    have O44 : Only NoF w w33 := (Only.trans' (Only.trans' o3 o6) o34)
    refine Pl.MSC Z rfl rfl rfl Tryz.call40 (rNext_y (notes_of r43 (OkNs.k hN12 o34)) (SliceOf.kp f2 O44 (fun _ _ h => h) (fun _ _ _ _ h => h)) hh hd ht (by omega) (by omega) hL10 hz) rfl ?_
    rintro e w38 ⟨m40, hm41, rfl, o39, ok42⟩
    refine ⟨_, rfl, ⟨fun _ => (Only.trans' (Only.trans' o6 o34) o39), (Only.trans (Only.trans (Only.trans (Only.refl NoF w2) o6 (fun _ h => h.elim)) o34 (fun _ h => h.elim)) o39 (fun _ h => h.elim))⟩, ?_⟩
    clear Z az; intro az Z
    refine Pl.MSP (b := true) (by kernel_rfl) (fun W oW => r_mv Z rfl) Z rfl rfl ?_; clear Z az; intro az Z
    refine Pl.MSP (b := true) (by kernel_rfl) (fun W oW => r_ex Z rfl rfl) Z rfl rfl ?_; clear Z az; intro az Z
    refine Pl.MSP (b := false) (by kernel_rfl) (fun W oW => r_ex Z rfl rfl) Z rfl rfl ?_; clear Z az; intro az Z
    have B45 := (Blk.k B35 o39)
    refine Pl.MSS (cs' := [.int .i64 (m40.h), .int .i64 (m40.n), .int .i64 (m40.d), .slice m40.A (m40.l.length) m40.c, strV (m40.s)]) Tryz.sizeOf51 Z rfl rfl rfl rfl rfl rfl ⟨rfl, rfl, rfl, rfl, rfl, trivial⟩ B45 rfl rfl fun w46 s47 B48 => ?_
    refine ⟨⟨fun h => absurd h (by decide), (Only.trans (Only.trans (Only.trans (Only.trans (Only.refl NoF w2) o6 (fun _ h => h.elim)) o34 (fun _ h => h.elim)) o39 (fun _ h => h.elim)) s47 (fun k h => .inr (Nat.le_trans (size_only o6) ((oneF_ge hg36) k h))))⟩, ?_⟩
    refine Pl.MSP (b := false) (by kernel_rfl) (fun W oW => r_as Z rfl) Z rfl rfl ?_; clear Z az; intro az Z
    refine wpPl_nil ?_
    have O49 : Only NoF w w5 := (Only.trans' o3 o6)
    have O50 : Only NoF w w46 := (o_sg (Only.trans' O44 o39) s47 (size_only O49) (oneF_ge hg36))
    exact ⟨m40, g32, Z.cut ⟨rfl, rfl, rfl, trivial⟩, hm41, (Nat.le_trans (size_only O49) hg36), O50, B48, (okN.sup (okN.only (okN.lt2 ok42) (Only.trans (Only.refl (fun k => k < w33.heap.size) w38) s47 (fun k h => .inl (by rw [show k = g32 from h]; exact Nat.lt_of_lt_of_le hl37 (Nat.le_refl _)))) (fun k hk => Nat.not_lt.2 hk.1)) fun k hk => Nat.le_trans (size_only O44) hk.1)⟩
  ·
   obtain ⟨g51, w52, hw, hA, hg55, hl56, o53, B54⟩ := newBlk (w := w2) (e := 51) (cs := [.int .i64 (0), .int .i64 (0), .int .i64 (0), .slice none (0) 0, strV ([])])
   refine Pl.MD (r_al (v := .agg #[.int .i64 (0), .int .i64 (0), .int .i64 (0), .slice none (0) 0, strV ([])]) Tryz.zeroValue51 rfl) Z rfl rfl ?_ ?_
   · rw [← hw]; exact ⟨fun _ => o53, (Only.trans (Only.refl NoF w2) o53 (fun _ h => h.elim))⟩
   rw [← hw, ← hA]; clear Z az; intro az Z
   clear hw hA
   have B65 := (Blk.k B4 o53)
   have O66 : Only NoF w w52 := (Only.trans' o3 o53)
   have T67 : (KT c kg D J) w52 F := ((kt_good c kg D J).only hkt O66 (fun _ _ h => h))
   refine Pl.MSC Z rfl rfl rfl Tryz.call24 (rAll_v_ B65 T67 s1 hsi) rfl ?_
   rintro e w57 ⟨A59, c60, L61, rfl, hL62, r63, hN64, o58⟩
   refine ⟨_, rfl, ⟨fun _ => (Only.trans' o53 o58), (Only.trans (Only.trans (Only.refl NoF w2) o53 (fun _ h => h.elim)) o58 (fun _ h => h.elim))⟩, ?_⟩
   clear Z az; intro az Z
   have hlL : L61.length = J.l.length := by have := congrArg List.length hL62; rwa [List.length_map, List.length_map] at this
   have O73 : Only NoF w w57 := (Only.trans' O66 o58)
   refine Pl.MSC Z rfl rfl rfl Tryz.call40 (rNext_y (notes_of r63 (OkNs.k hN64 (Only.refl NoF w57))) (SliceOf.kp f2 O73 (fun _ _ h => h) (fun _ _ _ _ h => h)) hh hd ht (by omega) (by omega) hL62 hz) rfl ?_
   rintro e w68 ⟨m70, hm71, rfl, o69, ok72⟩
   refine ⟨_, rfl, ⟨fun _ => (Only.trans' (Only.trans' o53 o58) o69), (Only.trans (Only.trans (Only.trans (Only.refl NoF w2) o53 (fun _ h => h.elim)) o58 (fun _ h => h.elim)) o69 (fun _ h => h.elim))⟩, ?_⟩
   clear Z az; intro az Z
   refine Pl.MSP (b := true) (by kernel_rfl) (fun W oW => r_mv Z rfl) Z rfl rfl ?_; clear Z az; intro az Z
   refine Pl.MSP (b := true) (by kernel_rfl) (fun W oW => r_ex Z rfl rfl) Z rfl rfl ?_; clear Z az; intro az Z
   refine Pl.MSP (b := false) (by kernel_rfl) (fun W oW => r_ex Z rfl rfl) Z rfl rfl ?_; clear Z az; intro az Z
   have B74 := (Blk.k (Blk.k B54 o58) o69)
   refine Pl.MSS (cs' := [.int .i64 (m70.h), .int .i64 (m70.n), .int .i64 (m70.d), .slice m70.A (m70.l.length) m70.c, strV (m70.s)]) Tryz.sizeOf51 Z rfl rfl rfl rfl rfl rfl ⟨rfl, rfl, rfl, rfl, rfl, trivial⟩ B74 rfl rfl fun w75 s76 B77 => ?_
   refine ⟨⟨fun h => absurd h (by decide), (Only.trans (Only.trans (Only.trans (Only.trans (Only.refl NoF w2) o53 (fun _ h => h.elim)) o58 (fun _ h => h.elim)) o69 (fun _ h => h.elim)) s76 (fun k h => .inr (Nat.le_trans (Nat.le_refl _) ((oneF_ge hg55) k h))))⟩, ?_⟩
   refine Pl.MSP (b := false) (by kernel_rfl) (fun W oW => r_as Z rfl) Z rfl rfl ?_; clear Z az; intro az Z
   refine wpPl_nil ?_
   have O78 : Only NoF w w75 := (o_sg (Only.trans' O73 o69) s76 (size_only o3) (oneF_ge hg55))
   exact ⟨m70, g51, Z.cut ⟨rfl, rfl, rfl, trivial⟩, hm71, (Nat.le_trans (size_only o3) hg55), O78, B77, (okN.sup (okN.only (okN.lt2 ok72) (Only.trans (Only.refl (fun k => k < w57.heap.size) w68) s76 (fun k h => .inl (by rw [show k = g51 from h]; exact Nat.lt_of_lt_of_le hl56 (size_only o58)))) (fun k hk => Nat.not_lt.2 hk.1)) fun k hk => Nat.le_trans (size_only O73) hk.1)⟩
 clear Z az
 rintro az w79 ⟨mj, g9, Z, hmj, hg9, o80, B81, okj⟩
 refine wp_seq_k fun _ k82 => ?_
 refine wp_seq_k fun _ k83 => wp_region_lit ?_
 refine L (r_mv Z rfl) Z rfl ?_; clear Z az; intro az Z
 refine L (r_neRI Z rfl rfl) Z rfl ?_; clear Z az; intro az Z
 refine k83 _ _ ?_
 refine br_false Z rfl ?_
 refine wp_skip ?_
 refine k82 _ _ (wp_seq_k fun _ k84 => wp_region_lit ?_)
 refine L (r_ldA Tryz.isAgg51 Tryz.sizeOf51 Z rfl (Blk.ca B81) rfl) Z rfl ?_; clear Z az; intro az Z
 refine LCV (v := .tuple #[strV ((encN (newN h J.l d q t))), .bool (true)]) Z rfl rfl Tryz.call41 (rEnc_y hmj (new_right hz).1 (okN.only (okN.lt2 okj) (Only.refl (fun k => k < w.heap.size) w79) (fun k hk => Nat.not_lt.2 hk.1))) rfl fun w85 o86 => ?_; clear Z az; intro az Z
 refine L (r_mv Z rfl) Z rfl ?_; clear Z az; intro az Z
 refine L (r_ex Z rfl rfl) Z rfl ?_; clear Z az; intro az Z
 refine L (r_ex Z rfl rfl) Z rfl ?_; clear Z az; intro az Z
 refine L (r_as Z rfl) Z rfl ?_; clear Z az; intro az Z
 refine L (r_as Z rfl) Z rfl ?_; clear Z az; intro az Z
 refine k84 _ _ (wp_seq_k fun _ k87 => wp_region_lit ?_)
 refine L (r_mv Z rfl) Z rfl ?_; clear Z az; intro az Z
 refine L (r_nilP Z rfl) Z rfl ?_; clear Z az; intro az Z
 refine L (r_fa (m' := 0) Tryz.underlying81 rfl Tryz.sizeOf75 rfl Z rfl rfl) Z rfl ?_; clear Z az; intro az Z
 have B88 := (Blk.k (Blk.k hB o80) o86)
 refine L (r_ld Tryz.isAgg75 Z rfl ((Blk.ca B88) 0 _ rfl)) Z rfl ?_; clear Z az; intro az Z
 refine L (r_mv Z rfl) Z rfl ?_; clear Z az; intro az Z
 have O89 : Only NoF w w85 := (Only.trans' o80 o86)
 have T90 : (KT c kg D J) w85 F := ((kt_good c kg D J).only hkt O89 (fun _ _ h => h))
 refine LC Z rfl rfl Tryz.call42 (k_append (t := (encN (newN h J.l d q t))) T90 hsi.1 (enc_short hq2 (new_right hz).1)) rfl ?_
 rintro e w91 ⟨rfl, F92, h93, o94, fm95, fr96⟩; refine ⟨_, rfl, ?_⟩
 clear Z az; intro az Z
 refine L (r_as Z rfl) Z rfl ?_; clear Z az; intro az Z
 refine k87 _ _ ?_
 refine wp_ret ?_
 show bodyPost _ _ _ .ret _ _
 refine ret_of (vs := [.int .i64 ((Jn.append J D (encN (newN h J.l d q t))).2.2)]) Z Tryz.results19 ⟨rfl, trivial⟩ ?_
 rw [writeS_y hz]; exact ⟨rfl, ⟨F92, h93, (Only.trans (Only.trans (Only.trans (Only.refl _ w) o80 (fun _ h => h.elim)) o86 (fun _ h => h.elim)) o94 (fun k h => (.inl h))), (fun k hk => ((fm95 _ hk).elim (fun h => (.inl h)) (fun h => .inr (Nat.le_trans (size_only O89) h)))), (fun k hk => ((fr96 _ hk).elim (fun h => (.inl h)) (fun h => .inr (Nat.le_trans (size_only O89) h))))⟩⟩
theorem rTell_v_ {w : World} {c kg g : Nat} {D : Dsk} {h : Int} {J : Jn} {F : Foot} (hB : Blk w g 81 [.pointer (some ⟨kg, 0, none⟩), .int .i64 h].toArray) (hkt : KT c kg D J w F) (s1 : ¬ F.all g) (hsi : SI h J) : Calls Tryz.prog 21 [.pointer (some ⟨g, 0, none⟩)].toArray w (TellTo (J.l.map decN) (Jn.sync J D).2.2 (KT c kg (Jn.sync J D).1 (Jn.sync J D).2.1) w F) := by
 have hsl := si_len hsi
 have hok := (good_iff.1 hsi.2).1
 refine calls_start Tryz.func21 rfl rfl ?_
 intro az Z
 rw [Tryz.ntmps21] at Z
 refine wp_seq_k fun _ k1 => wp_region_lit ?_
 refine L (r_as Z rfl) Z rfl ?_; clear Z az; intro az Z
 refine L (r_as Z rfl) Z rfl ?_; clear Z az; intro az Z
 refine k1 _ _ (wp_seq_k fun _ k2 => wp_region_lit ?_)
 refine L (r_mv Z rfl) Z rfl ?_; clear Z az; intro az Z
 refine L (r_nilP Z rfl) Z rfl ?_; clear Z az; intro az Z
 refine L (r_fa (m' := 0) Tryz.underlying81 rfl Tryz.sizeOf75 rfl Z rfl rfl) Z rfl ?_; clear Z az; intro az Z
 refine L (r_ld Tryz.isAgg75 Z rfl ((Blk.ca hB) 0 _ rfl)) Z rfl ?_; clear Z az; intro az Z
 refine LC Z rfl rfl Tryz.call44 (k_sync hkt) rfl ?_
 rintro e w3 ⟨rfl, F4, h5, o6, fm7, fr8⟩; refine ⟨_, rfl, ?_⟩
 clear Z az; intro az Z
 refine L (r_as Z rfl) Z rfl ?_; clear Z az; intro az Z
 refine k2 _ _ (wp_seq_k fun _ k9 => ?_)
 refine wp_seq_k fun _ k10 => wp_region_lit ?_
 refine L (r_mv Z rfl) Z rfl ?_; clear Z az; intro az Z
 refine L (r_neI Z rfl rfl) Z rfl ?_; clear Z az; intro az Z
 refine k10 _ _ ?_
 refine br Z rfl (fun hc11 => ?_) (fun hc11 => ?_)
 ·
  have p12 := of_decide_eq_false (nt_t hc11)
  refine wp_seq_k fun _ k13 => wp_region_lit ?_
  refine L (r_mv Z rfl) Z rfl ?_; clear Z az; intro az Z
  refine L (r_as Z rfl) Z rfl ?_; clear Z az; intro az Z
  refine L (r_as Z rfl) Z rfl ?_; clear Z az; intro az Z
  refine k13 _ _ ?_
  refine wp_ret ?_
  show bodyPost _ _ _ .ret _ _
  refine ret_of (vs := [.slice none (0) 0, .int .i64 ((Jn.sync J D).2.2)]) Z Tryz.results21 ⟨rfl, rfl, trivial⟩ ?_
  exact ⟨_, none, 0, [], ⟨F4, h5, (Only.trans (Only.refl _ w) o6 (fun k h => (.inl h))), (fun k hk => ((fm7 _ hk).elim (fun h => (.inl h)) (fun h => .inr (Nat.le_trans (Nat.le_refl _) h)))), (fun k hk => ((fr8 _ hk).elim (fun h => (.inl h)) (fun h => .inr (Nat.le_trans (Nat.le_refl _) h))))⟩, rfl, by rw [if_neg (of_decide_eq_false (nt_t hc11))]; rfl, World.ownsRow_nil _ _ _ _, OkNs.nil, Only.refl _ _⟩
 ·
  have p14 := of_decide_eq_true (nt_f hc11)
  refine wp_skip ?_
  refine k9 _ _ (wp_seq_k fun _ k15 => wp_region_lit ?_)
  refine L (r_mv Z rfl) Z rfl ?_; clear Z az; intro az Z
  have hT : ThingTo (KT c kg (Jn.sync J D).1 (Jn.sync J D).2.1) w F w3 := ⟨F4, h5, (Only.trans (Only.refl _ w) o6 (fun k h => (.inl h))), (fun k hk => ((fm7 _ hk).elim (fun h => (.inl h)) (fun h => .inr (Nat.le_trans (Nat.le_refl _) h)))), (fun k hk => ((fr8 _ hk).elim (fun h => (.inl h)) (fun h => .inr (Nat.le_trans (Nat.le_refl _) h))))⟩
  have B24 := (Blk.only hB o6 (fun h => s1 (.inl h)))
  have sp25 : ¬ Foot.all F4 g := sep_next s1 (Nat.lt_of_lt_of_le (Blk.lt hB) (Nat.le_refl _)) fm7 fr8
  refine LC Z rfl rfl Tryz.call24 (rAll_v_ B24 h5 sp25 (si_sync hsi D)) rfl ?_
  rintro e w16 ⟨A18, c19, L20, rfl, hL21, r22, hN23, o17⟩; refine ⟨_, rfl, ?_⟩
  clear Z az; intro az Z
  refine L (r_as Z rfl) Z rfl ?_; clear Z az; intro az Z
  refine L (r_as Z rfl) Z rfl ?_; clear Z az; intro az Z
  refine k15 _ _ ?_
  refine wp_ret ?_
  show bodyPost _ _ _ .ret _ _
  refine ret_of (vs := [.slice A18 (L20.length) c19, .int .i64 (0)]) Z Tryz.results21 ⟨rfl, rfl, trivial⟩ ?_
  have hz26 := of_decide_eq_true (nt_f hc11)
  exact ⟨_, A18, c19, L20, hT, by rw [hz26]; rfl, by rw [if_pos hz26]; exact hL21.trans (by rw [sync_l]), r22, OkNs.k hN23 (Only.refl NoF w16), o17⟩
theorem rOpen_v_ {w : World} {c : Nat} {D : Dsk} {F : Foot} (hd : RefT c D w F) {h : Int} : Calls Tryz.prog 9 [.pointer (some ⟨c, 0, none⟩), .int .i64 h].toArray w (OpenRTo c (openS D h) h w F) := by
 refine calls_start Tryz.func9 rfl rfl ?_
 intro az Z
 rw [Tryz.ntmps9] at Z
 refine wp_seq_k fun _ k1 => wp_region_lit ?_
 refine L (r_as Z rfl) Z rfl ?_; clear Z az; intro az Z
 refine L (r_as Z rfl) Z rfl ?_; clear Z az; intro az Z
 refine k1 _ _ (wp_seq_k fun _ k2 => ?_)
 refine wp_seq_k fun _ k3 => wp_region_lit ?_
 refine L (r_mv Z rfl) Z rfl ?_; clear Z az; intro az Z
 refine L (r_ltI Z rfl rfl) Z rfl ?_; clear Z az; intro az Z
 refine L (r_mv Z rfl) Z rfl ?_; clear Z az; intro az Z
 refine LG Z rfl rfl gd_f (fun hb => r_mv Z rfl) rfl ?_; clear Z az; intro az Z
 refine LG Z rfl rfl gd_f (fun hb => r_geI Z (evg hb rfl) rfl) rfl ?_; clear Z az; intro az Z
 refine L (r_or Z rfl rfl rfl) Z rfl ?_; clear Z az; intro az Z
 refine k3 _ _ ?_
 refine br Z rfl (fun hc4 => ?_) (fun hc4 => ?_)
 ·
  have d5 := hc4
  refine wp_seq_k fun _ k6 => wp_region_lit ?_
  refine L (r_as Z rfl) Z rfl ?_; clear Z az; intro az Z
  refine L (r_as Z rfl) Z rfl ?_; clear Z az; intro az Z
  refine k6 _ _ ?_
  refine wp_ret ?_
  show bodyPost _ _ _ .ret _ _
  refine ret_of (vs := [.pointer none, .int .i64 (1)]) Z Tryz.results9 ⟨rfl, rfl, trivial⟩ ?_
  rw [openS_arg (by simpa using hc4)]; exact .inl ⟨rfl, rfl, ⟨F, hd, (Only.refl _ w), (fun k hk => (.inl hk)), (fun k hk => (.inl hk))⟩⟩
 ·
  have p7 := of_decide_eq_false (or_f hc4).1
  have p8 := of_decide_eq_false (or_f hc4).2
  refine wp_skip ?_
  refine k2 _ _ (wp_seq_k fun _ k9 => wp_region_lit ?_)
  refine L (r_mv Z rfl) Z rfl ?_; clear Z az; intro az Z
  refine LC Z rfl rfl Tryz.call31 (kopen_s hd) rfl ?_
  rintro e w11 ⟨v10, rfl, H12⟩; refine ⟨_, rfl, ?_⟩
  clear Z az; intro az Z
  rcases H12 with ⟨hn18, rfl, F13, h14, o15, fm16, fr17⟩ | ⟨J19, kg20, hs21, rfl, F13, h14, o15, fm16, fr17⟩
  ·
   refine L (r_mv Z rfl) Z rfl ?_; clear Z az; intro az Z
   refine L (r_ex Z rfl rfl) Z rfl ?_; clear Z az; intro az Z
   refine L (r_ex Z rfl rfl) Z rfl ?_; clear Z az; intro az Z
   refine L (r_as Z rfl) Z rfl ?_; clear Z az; intro az Z
   refine L (r_as Z rfl) Z rfl ?_; clear Z az; intro az Z
   refine k9 _ _ (wp_seq_k fun _ k22 => ?_)
   refine wp_seq_k fun _ k23 => wp_region_lit ?_
   refine L (r_mv Z rfl) Z rfl ?_; clear Z az; intro az Z
   refine L (r_neI Z rfl rfl) Z rfl ?_; clear Z az; intro az Z
   refine k23 _ _ ?_
   refine br Z rfl (fun hc24 => ?_) (fun hc24 => ?_)
   ·
    have p25 := of_decide_eq_false (nt_t hc24)
    refine wp_seq_k fun _ k26 => wp_region_lit ?_
    refine L (r_mv Z rfl) Z rfl ?_; clear Z az; intro az Z
    refine L (r_as Z rfl) Z rfl ?_; clear Z az; intro az Z
    refine L (r_as Z rfl) Z rfl ?_; clear Z az; intro az Z
    refine k26 _ _ ?_
    refine wp_ret ?_
    show bodyPost _ _ _ .ret _ _
    refine ret_of (vs := [.pointer none, .int .i64 ((openJ D 0).2.1)]) Z Tryz.results9 ⟨rfl, rfl, trivial⟩ ?_
    have ha27 : ¬ (h < 0 ∨ 400 ≤ h) := by simpa using hc4
    rw [openS_none ha27 hn18]; exact .inl ⟨rfl, rfl, ⟨F13, h14, (Only.trans (Only.refl _ w) o15 (fun k h => (.inl h))), (fun k hk => ((fm16 _ hk).elim (fun h => (.inl h)) (fun h => .inr (Nat.le_trans (Nat.le_refl _) h)))), (fun k hk => ((fr17 _ hk).elim (fun h => (.inl h)) (fun h => .inr (Nat.le_trans (Nat.le_refl _) h))))⟩⟩
   ·
    have p28 := of_decide_eq_true (nt_f hc24)
    exact absurd (of_decide_eq_true (nt_f hc24)) (openJ_none hn18)
  ·
   rw [openJ_some hs21] at Z
   have hji29 := ji_open (refok hd) hs21
   refine L (r_mv Z rfl) Z rfl ?_; clear Z az; intro az Z
   refine L (r_ex Z rfl rfl) Z rfl ?_; clear Z az; intro az Z
   refine L (r_ex Z rfl rfl) Z rfl ?_; clear Z az; intro az Z
   refine L (r_as Z rfl) Z rfl ?_; clear Z az; intro az Z
   refine L (r_as Z rfl) Z rfl ?_; clear Z az; intro az Z
   refine k9 _ _ (wp_seq_k fun _ k30 => ?_)
   refine wp_seq_k fun _ k31 => wp_region_lit ?_
   refine L (r_mv Z rfl) Z rfl ?_; clear Z az; intro az Z
   refine L (r_neRI Z rfl rfl) Z rfl ?_; clear Z az; intro az Z
   refine k31 _ _ ?_
   refine br_false Z rfl ?_
   refine wp_skip ?_
   refine k30 _ _ (wp_seq_k fun _ k32 => wp_region_lit ?_)
   refine L (r_mv Z rfl) Z rfl ?_; clear Z az; intro az Z
   obtain ⟨A33, c34, hB35, hR36⟩ := kt_open h14
   refine L (r_nilP Z rfl) Z rfl ?_; clear Z az; intro az Z
   refine L (r_fa (m' := 2) Tryz.underlying79 rfl Tryz.sizeOf68 rfl Z rfl rfl) Z rfl ?_; clear Z az; intro az Z
   refine L (r_ld Tryz.isAgg68 Z rfl ((Blk.ca hB35) 2 _ rfl)) Z rfl ?_; clear Z az; intro az Z
   refine LC Z rfl rfl Tryz.call32 (rNotes_v hR36 hji29.2.1 (Nat.le_trans (JI.ll hji29) (by decide))) rfl ?_
   rintro e w37 ⟨A38, c39, L40, rfl, r41, hN42, hL43, o44⟩; refine ⟨_, rfl, ?_⟩
   clear Z az; intro az Z
   rcases tf (List.all J19.l decOk) with hsp45 | hsp45
   ·
    rw [hsp45] at Z
    refine L (r_mv Z rfl) Z rfl ?_; clear Z az; intro az Z
    refine L (r_ex Z rfl rfl) Z rfl ?_; clear Z az; intro az Z
    refine L (r_ex Z rfl rfl) Z rfl ?_; clear Z az; intro az Z
    refine L (r_as Z rfl) Z rfl ?_; clear Z az; intro az Z
    refine L (r_as Z rfl) Z rfl ?_; clear Z az; intro az Z
    refine k32 _ _ (wp_seq_k fun _ k46 => ?_)
    refine wp_seq_k fun _ k47 => wp_region_lit ?_
    refine L (r_mv Z rfl) Z rfl ?_; clear Z az; intro az Z
    refine L (r_not Z rfl) Z rfl ?_; clear Z az; intro az Z
    refine L (r_mv Z rfl) Z rfl ?_; clear Z az; intro az Z
    refine LF Z rfl rfl rfl rfl ?_; clear Z az; intro az Z
    refine LF Z rfl rfl rfl rfl ?_; clear Z az; intro az Z
    refine LF Z rfl rfl rfl rfl ?_; clear Z az; intro az Z
    refine L (r_pick Z rfl rfl rfl) Z rfl ?_; clear Z az; intro az Z
    refine L (r_mv Z rfl) Z rfl ?_; clear Z az; intro az Z
    refine LF Z rfl rfl rfl rfl ?_; clear Z az; intro az Z
    refine LF Z rfl rfl rfl rfl ?_; clear Z az; intro az Z
    refine LF Z rfl rfl rfl rfl ?_; clear Z az; intro az Z
    refine LF Z rfl rfl rfl rfl ?_; clear Z az; intro az Z
    refine LF Z rfl rfl rfl rfl ?_; clear Z az; intro az Z
    refine LF Z rfl rfl rfl rfl ?_; clear Z az; intro az Z
    refine LF Z rfl rfl rfl rfl ?_; clear Z az; intro az Z
    refine LF Z rfl rfl rfl rfl ?_; clear Z az; intro az Z
    refine LF Z rfl rfl rfl rfl ?_; clear Z az; intro az Z
    refine LF Z rfl rfl rfl rfl ?_; clear Z az; intro az Z
    refine LF Z rfl rfl rfl rfl ?_; clear Z az; intro az Z
    refine LF Z rfl rfl rfl rfl ?_; clear Z az; intro az Z
    refine LF Z rfl rfl rfl rfl ?_; clear Z az; intro az Z
    refine LF Z rfl rfl rfl rfl ?_; clear Z az; intro az Z
    refine LF Z rfl rfl rfl rfl ?_; clear Z az; intro az Z
    refine L (r_pick Z rfl rfl rfl) Z rfl ?_; clear Z az; intro az Z
    refine k47 _ _ ?_
    refine br_true Z rfl ?_
    refine wp_seq_k fun _ k48 => wp_region_lit ?_
    refine L (r_as Z rfl) Z rfl ?_; clear Z az; intro az Z
    refine L (r_as Z rfl) Z rfl ?_; clear Z az; intro az Z
    refine k48 _ _ ?_
    refine wp_ret ?_
    show bodyPost _ _ _ .ret _ _
    refine ret_of (vs := [.pointer none, .int .i64 (2)]) Z Tryz.results9 ⟨rfl, rfl, trivial⟩ ?_
    have T49 : (KT c kg20 (openJ D 0).1 J19) w37 F13 := ((kt_good _ _ _ _).only h14 o44 (fun _ _ h => h))
    have ha50 : ¬ (h < 0 ∨ 400 ≤ h) := by simpa using hc4
    have hb51 : goodL h J19.l = false := good_no1 hsp45
    obtain ⟨F52, h53, fm54, fr55⟩ := KT.disk T49
    rw [openS_bad ha50 hs21 hb51]; exact .inl ⟨rfl, rfl, F52, h53, (Only.trans (Only.trans (Only.refl _ w) o15 (fun k h => (.inl h))) o44 (fun _ h => h.elim)), (fun k hk => (fun hk => ((fm16 _ hk).elim (fun h => (.inl h)) (fun h => .inr (Nat.le_trans (Nat.le_refl _) h)))) (fm54 k hk)), (fun k hk => (fun hk => ((fr17 _ hk).elim (fun h => (.inl h)) (fun h => .inr (Nat.le_trans (Nat.le_refl _) h)))) (fr55 k hk))⟩
   ·
    rw [hsp45] at Z
    refine L (r_mv Z rfl) Z rfl ?_; clear Z az; intro az Z
    refine L (r_ex Z rfl rfl) Z rfl ?_; clear Z az; intro az Z
    refine L (r_ex Z rfl rfl) Z rfl ?_; clear Z az; intro az Z
    refine L (r_as Z rfl) Z rfl ?_; clear Z az; intro az Z
    refine L (r_as Z rfl) Z rfl ?_; clear Z az; intro az Z
    refine k32 _ _ (wp_seq_k fun _ k56 => ?_)
    refine wp_seq_k fun _ k57 => wp_region_lit ?_
    refine L (r_mv Z rfl) Z rfl ?_; clear Z az; intro az Z
    refine L (r_not Z rfl) Z rfl ?_; clear Z az; intro az Z
    refine L (r_mv Z rfl) Z rfl ?_; clear Z az; intro az Z
    refine LT Z rfl rfl (r_mv Z rfl) rfl ?_; clear Z az; intro az Z
    refine LGV (v := .int .i64 (check L40)) Z rfl rfl gd_f rfl (fun hb => rfl) Tryz.call33 (fun hb => rCheck_v (notes_of r41 (OkNs.k hN42 (Only.refl NoF w37)))) rfl fun w58 o59 => ?_; clear Z az; intro az Z
    refine LT Z rfl rfl (r_neI Z rfl rfl) rfl ?_; clear Z az; intro az Z
    rcases tf (decide (check L40 = 0)) with hsp60 | hsp60
    ·
     rw [hsp60, Bool.not_false] at Z
     refine L (r_pick Z rfl rfl rfl) Z rfl ?_; clear Z az; intro az Z
     refine L (r_mv Z rfl) Z rfl ?_; clear Z az; intro az Z
     refine LF Z rfl rfl rfl rfl ?_; clear Z az; intro az Z
     refine LF Z rfl rfl rfl rfl ?_; clear Z az; intro az Z
     refine LF Z rfl rfl rfl rfl ?_; clear Z az; intro az Z
     refine LF Z rfl rfl rfl rfl ?_; clear Z az; intro az Z
     refine LF Z rfl rfl rfl rfl ?_; clear Z az; intro az Z
     refine LF Z rfl rfl rfl rfl ?_; clear Z az; intro az Z
     refine LF Z rfl rfl rfl rfl ?_; clear Z az; intro az Z
     refine LF Z rfl rfl rfl rfl ?_; clear Z az; intro az Z
     refine LF Z rfl rfl rfl rfl ?_; clear Z az; intro az Z
     refine LF Z rfl rfl rfl rfl ?_; clear Z az; intro az Z
     refine LF Z rfl rfl rfl rfl ?_; clear Z az; intro az Z
     refine LF Z rfl rfl rfl rfl ?_; clear Z az; intro az Z
     refine LF Z rfl rfl rfl rfl ?_; clear Z az; intro az Z
     refine LF Z rfl rfl rfl rfl ?_; clear Z az; intro az Z
     refine LF Z rfl rfl rfl rfl ?_; clear Z az; intro az Z
     refine L (r_pick Z rfl rfl rfl) Z rfl ?_; clear Z az; intro az Z
     refine k57 _ _ ?_
     refine br_true Z rfl ?_
     refine wp_seq_k fun _ k61 => wp_region_lit ?_
     refine L (r_as Z rfl) Z rfl ?_; clear Z az; intro az Z
     refine L (r_as Z rfl) Z rfl ?_; clear Z az; intro az Z
     refine k61 _ _ ?_
     refine wp_ret ?_
     show bodyPost _ _ _ .ret _ _
     refine ret_of (vs := [.pointer none, .int .i64 (2)]) Z Tryz.results9 ⟨rfl, rfl, trivial⟩ ?_
     have O62 : Only NoF w11 w58 := (Only.trans' o44 o59)
     have T63 : (KT c kg20 (openJ D 0).1 J19) w58 F13 := ((kt_good _ _ _ _).only h14 O62 (fun _ _ h => h))
     have ha64 : ¬ (h < 0 ∨ 400 ≤ h) := by simpa using hc4
     have hb65 : goodL h J19.l = false := good_no2 (hL43 hsp45) hsp60
     obtain ⟨F66, h67, fm68, fr69⟩ := KT.disk T63
     rw [openS_bad ha64 hs21 hb65]; exact .inl ⟨rfl, rfl, F66, h67, (Only.trans (Only.trans (Only.trans (Only.refl _ w) o15 (fun k h => (.inl h))) o44 (fun _ h => h.elim)) o59 (fun _ h => h.elim)), (fun k hk => (fun hk => ((fm16 _ hk).elim (fun h => (.inl h)) (fun h => .inr (Nat.le_trans (Nat.le_refl _) h)))) (fm68 k hk)), (fun k hk => (fun hk => ((fr17 _ hk).elim (fun h => (.inl h)) (fun h => .inr (Nat.le_trans (Nat.le_refl _) h)))) (fr69 k hk))⟩
    ·
     rw [hsp60, Bool.not_true] at Z
     refine L (r_pick Z rfl rfl rfl) Z rfl ?_; clear Z az; intro az Z
     refine L (r_mv Z rfl) Z rfl ?_; clear Z az; intro az Z
     refine LT Z rfl rfl (r_mv Z rfl) rfl ?_; clear Z az; intro az Z
     refine LT Z rfl rfl (r_lenL Tryz.underlying44 Z rfl) rfl ?_; clear Z az; intro az Z
     refine LT Z rfl rfl (r_gtI Z rfl rfl) rfl ?_; clear Z az; intro az Z
     rcases tf (decide (0 < ((L40.length : Nat) : Int))) with hsp70 | hsp70
     ·
      rw [hsp70] at Z
      refine LT Z rfl rfl (r_mv Z rfl) rfl ?_; clear Z az; intro az Z
      refine LF Z rfl rfl rfl rfl ?_; clear Z az; intro az Z
      refine LF Z rfl rfl rfl rfl ?_; clear Z az; intro az Z
      refine LF Z rfl rfl rfl rfl ?_; clear Z az; intro az Z
      refine LF Z rfl rfl rfl rfl ?_; clear Z az; intro az Z
      refine LF Z rfl rfl rfl rfl ?_; clear Z az; intro az Z
      refine LF Z rfl rfl rfl rfl ?_; clear Z az; intro az Z
      refine LF Z rfl rfl rfl rfl ?_; clear Z az; intro az Z
      refine LF Z rfl rfl rfl rfl ?_; clear Z az; intro az Z
      refine LF Z rfl rfl rfl rfl ?_; clear Z az; intro az Z
      refine LF Z rfl rfl rfl rfl ?_; clear Z az; intro az Z
      refine LT Z rfl rfl (r_pick Z rfl rfl rfl) rfl ?_; clear Z az; intro az Z
      refine L (r_pick Z rfl rfl rfl) Z rfl ?_; clear Z az; intro az Z
      refine k57 _ _ ?_
      refine br_false Z rfl ?_
      refine wp_skip ?_
      refine k56 _ _ (wp_seq_k fun _ k71 => wp_region_lit ?_)
      refine L (r_mv Z rfl) Z rfl ?_; clear Z az; intro az Z
      refine L (r_mv Z rfl) Z rfl ?_; clear Z az; intro az Z
      refine L (r_bd (v := .agg #[.pointer (some ⟨kg20, 0, none⟩), .int .i64 (h)]) (build_RSto _ _) Z rfl) Z rfl ?_; clear Z az; intro az Z
      refine LBox Z rfl rfl rfl ?_
      clear Z az; intro g72 w73 hg76 hl77 o74 B75 az Z
      refine L (r_as Z rfl) Z rfl ?_; clear Z az; intro az Z
      refine L (r_as Z rfl) Z rfl ?_; clear Z az; intro az Z
      refine k71 _ _ ?_
      refine wp_ret ?_
      show bodyPost _ _ _ .ret _ _
      refine ret_of (vs := [.pointer (some ((⟨g72, 0, none⟩ : Addr))), .int .i64 (0)]) Z Tryz.results9 ⟨rfl, rfl, trivial⟩ ?_
      have O78 : Only NoF w11 w73 := (Only.trans' (Only.trans' o44 o59) o74)
      have T79 : (KT c kg20 (openJ D 0).1 J19) w73 F13 := ((kt_good _ _ _ _).only h14 O78 (fun _ _ h => h))
      have ha80 : ¬ (h < 0 ∨ 400 ≤ h) := by simpa using hc4
      have hb81 : goodL h J19.l = true := good_h1 hsp45 (hL43 hsp45) hsp60 hsp70
      have O82 : Only NoF w11 w58 := (Only.trans' o44 o59)
      have O83 := (Only.trans (Only.trans (Only.trans (Only.refl (fun _ => True) w) o15 (fun _ _ => .inl trivial)) o44 (fun _ _ => .inl trivial)) o59 (fun _ _ => .inl trivial))
      rw [openS_some ha80 hs21 hb81]
      refine .inr ⟨J19, g72, kg20, rfl, rfl, ?_⟩
      refine ⟨_, RST.make (J := J19) B75 T79 (fun h => absurd ((kt_good _ _ _ _).lt h14 _ h) (Nat.not_lt.2 (Nat.le_trans (size_only O82) hg76))), (Only.trans (Only.trans (Only.trans (Only.trans (Only.refl _ w) o15 (fun k h => (.inl h))) o44 (fun _ h => h.elim)) o59 (fun _ h => h.elim)) o74 (fun _ h => h.elim)), ?_, ?_⟩
      · intro k hk; rcases hk with hk | hk
        · exact .inr (by rw [hk]; exact Nat.le_trans (size_only O83) hg76)
        · exact ((fm16 _ hk).elim (fun h => (.inl h)) (fun h => .inr (Nat.le_trans (Nat.le_refl _) h)))
      · intro k hk; rcases hk with hk | hk
        · exact hk.elim
        · exact ((fr17 _ hk).elim (fun h => (.inl h)) (fun h => .inr (Nat.le_trans (Nat.le_refl _) h)))
     ·
      rw [hsp70] at Z
      refine LT Z rfl rfl (r_mv Z rfl) rfl ?_; clear Z az; intro az Z
      refine LT Z rfl rfl (r_mv Z rfl) rfl ?_; clear Z az; intro az Z
      refine LT Z rfl rfl (r_mv Z rfl) rfl ?_; clear Z az; intro az Z
      refine LT Z rfl rfl (r_lenL Tryz.underlying44 Z rfl) rfl ?_; clear Z az; intro az Z
      refine LT Z rfl rfl (r_min Z rfl rfl) rfl ?_; clear Z az; intro az Z
      have h84 := Row.own KN0 r41 (fun _ _ => trivial)
      have hp85 := of_decide_eq_true hsp70
      have hl86 : 0 + (List.take 1 L40).length ≤ (L40).length := by rw [List.length_take]; omega
      have h88 := (SliceOf.kp h84 o59 (fun _ _ h => h) (fun _ _ _ _ h => h))
      have h89 := SliceOf.pl h88
      have hc87 : (List.take 1 L40).length ≤ c39 := Nat.le_trans (by omega) (SliceOf.cap_ h89)
      have h90 := SliceOf.sub (lo := 0) (m := (List.take 1 L40).length) h88 rfl hl86
      rw [List.drop_zero, Nat.sub_zero, show List.take (List.take 1 L40).length L40 = List.take 1 L40 by rw [List.length_take, Nat.min_eq_left (by omega)]] at h90
      have hl1 : (List.take 1 L40).length = 1 := by rw [List.length_take]; omega
      refine LT Z rfl rfl (r_slh (m := (List.take 1 L40).length) (size := 5) Tryz.underlying44 Tryz.sizeOf51 Z rfl rfl (by rw [List.length_take]; omega) hc87) rfl ?_; clear Z az; intro az Z
      have hk91 : 0 < ((List.take 1 L40)).length := by omega
      obtain ⟨m92, hm93, ok94, hA95⟩ := Row.el KN0 h90 hk91
      have E96 : ∀ W, Only NoF w58 W → CA W (eA (slA A38 c39 0 5) 5 (0)) [.int .i64 (m92.h), .int .i64 (m92.n), .int .i64 (m92.d), .slice m92.A (m92.l.length) m92.c, strV (m92.s)] := Row.ce KN0 h90 hm93 rfl
      refine LT Z rfl rfl (r_ia (k := 0) (size := 5) Tryz.underlying44 Tryz.sizeOf51 Z rfl rfl rfl hk91 hA95) rfl ?_; clear Z az; intro az Z
      refine LT Z rfl rfl (r_fa (m' := 0) Tryz.underlying51 rfl Tryz.sizeOf3 rfl Z rfl rfl) rfl ?_; clear Z az; intro az Z
      refine LT Z rfl rfl (r_ld Tryz.isAgg3 Z rfl ((E96 _ (Only.refl NoF w58)) 0 _ rfl)) rfl ?_; clear Z az; intro az Z
      refine LT Z rfl rfl (r_mv Z rfl) rfl ?_; clear Z az; intro az Z
      refine LT Z rfl rfl (r_neI Z rfl rfl) rfl ?_; clear Z az; intro az Z
      refine LT Z rfl rfl (r_pick Z rfl rfl rfl) rfl ?_; clear Z az; intro az Z
      refine L (r_pick Z rfl rfl rfl) Z rfl ?_; clear Z az; intro az Z
      refine k57 _ _ ?_
      refine br Z rfl (fun hc97 => ?_) (fun hc97 => ?_)
      ·
       have p98 := of_decide_eq_false (nt_t hc97)
       refine wp_seq_k fun _ k99 => wp_region_lit ?_
       refine L (r_as Z rfl) Z rfl ?_; clear Z az; intro az Z
       refine L (r_as Z rfl) Z rfl ?_; clear Z az; intro az Z
       refine k99 _ _ ?_
       refine wp_ret ?_
       show bodyPost _ _ _ .ret _ _
       refine ret_of (vs := [.pointer none, .int .i64 (2)]) Z Tryz.results9 ⟨rfl, rfl, trivial⟩ ?_
       have O100 : Only NoF w11 w58 := (Only.trans' o44 o59)
       have T101 : (KT c kg20 (openJ D 0).1 J19) w58 F13 := ((kt_good _ _ _ _).only h14 O100 (fun _ _ h => h))
       have ha102 : ¬ (h < 0 ∨ 400 ≤ h) := by simpa using hc4
       have hb103 : goodL h J19.l = false := good_h3 hsp45 (hL43 hsp45) hsp60 hm93 hc97
       obtain ⟨F104, h105, fm106, fr107⟩ := KT.disk T101
       rw [openS_bad ha102 hs21 hb103]; exact .inl ⟨rfl, rfl, F104, h105, (Only.trans (Only.trans (Only.trans (Only.refl _ w) o15 (fun k h => (.inl h))) o44 (fun _ h => h.elim)) o59 (fun _ h => h.elim)), (fun k hk => (fun hk => ((fm16 _ hk).elim (fun h => (.inl h)) (fun h => .inr (Nat.le_trans (Nat.le_refl _) h)))) (fm106 k hk)), (fun k hk => (fun hk => ((fr17 _ hk).elim (fun h => (.inl h)) (fun h => .inr (Nat.le_trans (Nat.le_refl _) h)))) (fr107 k hk))⟩
      ·
       have p108 := of_decide_eq_true (nt_f hc97)
       refine wp_skip ?_
       refine k56 _ _ (wp_seq_k fun _ k109 => wp_region_lit ?_)
       refine L (r_mv Z rfl) Z rfl ?_; clear Z az; intro az Z
       refine L (r_mv Z rfl) Z rfl ?_; clear Z az; intro az Z
       refine L (r_bd (v := .agg #[.pointer (some ⟨kg20, 0, none⟩), .int .i64 (h)]) (build_RSto _ _) Z rfl) Z rfl ?_; clear Z az; intro az Z
       refine LBox Z rfl rfl rfl ?_
       clear Z az; intro g110 w111 hg114 hl115 o112 B113 az Z
       refine L (r_as Z rfl) Z rfl ?_; clear Z az; intro az Z
       refine L (r_as Z rfl) Z rfl ?_; clear Z az; intro az Z
       refine k109 _ _ ?_
       refine wp_ret ?_
       show bodyPost _ _ _ .ret _ _
       refine ret_of (vs := [.pointer (some ((⟨g110, 0, none⟩ : Addr))), .int .i64 (0)]) Z Tryz.results9 ⟨rfl, rfl, trivial⟩ ?_
       have O116 : Only NoF w11 w111 := (Only.trans' (Only.trans' o44 o59) o112)
       have T117 : (KT c kg20 (openJ D 0).1 J19) w111 F13 := ((kt_good _ _ _ _).only h14 O116 (fun _ _ h => h))
       have ha118 : ¬ (h < 0 ∨ 400 ≤ h) := by simpa using hc4
       have hb119 : goodL h J19.l = true := good_h2 hsp45 (hL43 hsp45) hsp60 hm93 hc97
       have O120 : Only NoF w11 w58 := (Only.trans' o44 o59)
       have O121 := (Only.trans (Only.trans (Only.trans (Only.refl (fun _ => True) w) o15 (fun _ _ => .inl trivial)) o44 (fun _ _ => .inl trivial)) o59 (fun _ _ => .inl trivial))
       rw [openS_some ha118 hs21 hb119]
       refine .inr ⟨J19, g110, kg20, rfl, rfl, ?_⟩
       refine ⟨_, RST.make (J := J19) B113 T117 (fun h => absurd ((kt_good _ _ _ _).lt h14 _ h) (Nat.not_lt.2 (Nat.le_trans (size_only O120) hg114))), (Only.trans (Only.trans (Only.trans (Only.trans (Only.refl _ w) o15 (fun k h => (.inl h))) o44 (fun _ h => h.elim)) o59 (fun _ h => h.elim)) o112 (fun _ h => h.elim)), ?_, ?_⟩
       · intro k hk; rcases hk with hk | hk
         · exact .inr (by rw [hk]; exact Nat.le_trans (size_only O121) hg114)
         · exact ((fm16 _ hk).elim (fun h => (.inl h)) (fun h => .inr (Nat.le_trans (Nat.le_refl _) h)))
       · intro k hk; rcases hk with hk | hk
         · exact hk.elim
         · exact ((fr17 _ hk).elim (fun h => (.inl h)) (fun h => .inr (Nat.le_trans (Nat.le_refl _) h)))
end
section
open Go.RowKit
def SO (b : Nat) (D : Dsk) (h : Int) : Option (Nat × Nat × Jn) → Thing
 | none => DiskT b D
 | some (g, jg, J) => ST b g jg D h J
def RO (c : Nat) (D : Dsk) (h : Int) : Option (Nat × Nat × Jn) → Thing
 | none => RefT c D
 | some (g, kg, J) => RST c g kg D h J
theorem so_good (b : Nat) (D : Dsk) (h : Int) (os : Option (Nat × Nat × Jn)) : Good (SO b D h os) := by
 rcases os with _ | ⟨g, jg, J⟩
 · exact diskT_good b D
 · exact st_good b g jg D h J
theorem ro_good (c : Nat) (D : Dsk) (h : Int) (os : Option (Nat × Nat × Jn)) : Good (RO c D h os) := by
 rcases os with _ | ⟨g, jg, J⟩
 · exact refT_good c D
 · exact rst_good c g jg D h J
def sp : Option (Nat × Nat × Jn) → Value
 | none => .pointer none
 | some (g, _, _) => .pointer (some ⟨g, 0, none⟩)
abbrev OS := Option (Nat × Nat × Nat × Nat × Jn)
def q1 (x : Nat × Nat × Nat × Nat × Jn) : Nat × Nat × Jn := (x.1, x.2.1, x.2.2.2.2)
def q2 (x : Nat × Nat × Nat × Nat × Jn) : Nat × Nat × Jn := (x.2.2.1, x.2.2.2.1, x.2.2.2.2)
theorem os_join {oj ok : Option (Nat × Nat × Jn)} (h : oj.map (·.2.2) = ok.map (·.2.2)) : ∃ oo : OS, oj = oo.map q1 ∧ ok = oo.map q2 := by
 rcases oj with _ | ⟨g, jg, J⟩ <;> rcases ok with _ | ⟨g2, kg, J2⟩
 · exact ⟨none, rfl, rfl⟩
 · cases h
 · cases h
 · have e : J = J2 := Option.some.inj h
   subst e
   exact ⟨some (g, jg, g2, kg, J), rfl, rfl⟩
section
variable {w w' : World} {b c g jg kg g2 : Nat} {D D2 : Dsk} {h h0 : Int} {J : Jn} {F G G1 G2 : Foot} {X X' Y Y' : Thing} {os : Option (Nat × Nat × Jn)} {v : Value}
/-! ### the disk under the store -/
theorem so_disk (hs : SO b D h os w F) : ∃ F2, DiskT b D w F2 ∧ (∀ k, F2.m k → F.m k) ∧ ∀ k, F2.r k → F.r k := by
 rcases os with _ | ⟨g, jg, J⟩
 · exact ⟨F, hs, fun _ h => h, fun _ h => h⟩
 · exact ST.disk hs
theorem ro_disk (hs : RO c D h os w F) : ∃ F2, RefT c D w F2 ∧ (∀ k, F2.m k → F.m k) ∧ ∀ k, F2.r k → F.r k := by
 rcases os with _ | ⟨g, kg, J⟩
 · exact ⟨F, hs, fun _ h => h, fun _ h => h⟩
 · obtain ⟨G1, G2, _, h2, _, _, rfl⟩ := hs
   obtain ⟨F2, h3, hm, hr⟩ := KT.disk h2
   exact ⟨F2, h3, fun k hk => .inr (hm k hk), fun k hk => .inr (hr k hk)⟩
theorem call_so (hs : SO b D h os w F) {f : FuncId} {args : Array Value} {D' : Dsk} (hc : ∀ F2, DiskT b D w F2 → (∀ k, F2.m k → F.m k) → Calls Tryz.prog f args w (TurnTo v (DiskT b D') w F2)) : Calls Tryz.prog f args w (TurnTo v (SO b D' h os) w F) := by
 rcases os with _ | ⟨g, jg, J⟩
 · exact hc F hs fun _ h => h
 · exact BothT.call (sb_good _ _ _ _) hs fun G2 h2 hm _ => BothT.call (jb_good b jg J) h2 fun G3 h3 hm3 _ => hc G3 h3 fun k hk => hm k (hm3 k hk)
theorem call_ro (hs : RO c D h os w F) {f : FuncId} {args : Array Value} {D' : Dsk} (hc : ∀ F2, RefT c D w F2 → (∀ k, F2.m k → F.m k) → Calls Tryz.prog f args w (TurnTo v (RefT c D') w F2)) : Calls Tryz.prog f args w (TurnTo v (RO c D' h os) w F) := by
 rcases os with _ | ⟨g, kg, J⟩
 · exact hc F hs fun _ h => h
 · exact BothT.call (rb_good _ _ _) hs fun G2 h2 hm _ => BothT.call (kb_good c kg J) h2 fun G3 h3 hm3 _ => hc G3 h3 fun k hk => hm k (hm3 k hk)
theorem so_lose (hs : SO b D h os w F) {n : Int} (hn : I64 n) : Calls Tryz.prog 10 [.pointer (some ⟨b, 0, none⟩), .int .i64 n].toArray w (TurnTo (.tuple #[]) (SO b (D.lose n) h os) w F) := call_so hs fun _ h2 _ => dLose_c h2 n hn
theorem so_start (hs : SO b D h os w F) : Calls Tryz.prog 16 [.pointer (some ⟨b, 0, none⟩)].toArray w (TurnTo (.tuple #[]) (SO b D.start h os) w F) := call_so hs fun _ h2 _ => dStart_c h2
theorem so_crash (hs : SO b D h os w F) {w0 : World} {kv : Value} {l : List Int} (hk : SliceOf AllB 1 KInt.R w0 kv l) (o : Only NoF w0 w) (hl : l.length ≤ 1000) (hS : ∀ k, F.m k → w0.heap.size ≤ k) : Calls Tryz.prog 14 [.pointer (some ⟨b, 0, none⟩), kv].toArray w (TurnTo (.tuple #[]) (SO b (D.crash l) h os) w F) :=
 call_so hs fun F2 h2 hm => crash_o (oj := none) h2 hk o hl fun k hk => hS k (hm k hk)
theorem so_arm (hs : SO b D h os w F) {w0 : World} {kv : Value} {l : List Int} (hk : SliceOf AllB 1 KInt.R w0 kv l) (o : Only NoF w0 w) (hl : l.length ≤ 1000) {n : Int} (hn : I64 n) : Calls Tryz.prog 12 [.pointer (some ⟨b, 0, none⟩), .int .i64 n, kv].toArray w (TurnTo (.tuple #[]) (SO b (D.arm n l) h os) w F) :=
 call_so hs fun F2 h2 _ => arm_o (oj := none) h2 hk o hl hn
theorem l_lose2 (gY : Good Y) (hs : BothT (SO b D h os) Y w F) {n : Int} (hn : I64 n) : Calls Tryz.prog 10 [.pointer (some ⟨b, 0, none⟩), .int .i64 n].toArray w (TurnTo (.tuple #[]) (BothT (SO b (D.lose n) h os) Y) w F) := BothT.calll gY hs fun _ h1 _ => so_lose h1 hn
theorem l_start2 (gY : Good Y) (hs : BothT (SO b D h os) Y w F) : Calls Tryz.prog 16 [.pointer (some ⟨b, 0, none⟩)].toArray w (TurnTo (.tuple #[]) (BothT (SO b D.start h os) Y) w F) := BothT.calll gY hs fun _ h1 _ => so_start h1
theorem l_crash2 (gY : Good Y) (hs : BothT (SO b D h os) Y w F) {w0 : World} {kv : Value} {l : List Int} (hk : SliceOf AllB 1 KInt.R w0 kv l) (o : Only NoF w0 w) (hl : l.length ≤ 1000) (hS : ∀ k, F.m k → w0.heap.size ≤ k) : Calls Tryz.prog 14 [.pointer (some ⟨b, 0, none⟩), kv].toArray w (TurnTo (.tuple #[]) (BothT (SO b (D.crash l) h os) Y) w F) :=
 BothT.calll gY hs fun _ h1 hm => so_crash h1 hk o hl fun k hk => hS k (hm k hk)
theorem l_arm2 (gY : Good Y) (hs : BothT (SO b D h os) Y w F) {w0 : World} {kv : Value} {l : List Int} (hk : SliceOf AllB 1 KInt.R w0 kv l) (o : Only NoF w0 w) (hl : l.length ≤ 1000) {n : Int} (hn : I64 n) : Calls Tryz.prog 12 [.pointer (some ⟨b, 0, none⟩), .int .i64 n, kv].toArray w (TurnTo (.tuple #[]) (BothT (SO b (D.arm n l) h os) Y) w F) :=
 BothT.calll gY hs fun _ h1 _ => so_arm h1 hk o hl hn
theorem r_lose2 (gX : Good X) (hs : BothT X (RO c D h os) w F) {n : Int} (hn : I64 n) : Calls Tryz.prog 11 [.pointer (some ⟨c, 0, none⟩), .int .i64 n].toArray w (TurnTo (.tuple #[]) (BothT X (RO c (D.lose n) h os)) w F) := BothT.call gX hs fun _ h2 _ _ => call_ro h2 fun _ h3 _ => rLose_c h3 n hn
theorem r_start2 (gX : Good X) (hs : BothT X (RO c D h os) w F) : Calls Tryz.prog 17 [.pointer (some ⟨c, 0, none⟩)].toArray w (TurnTo (.tuple #[]) (BothT X (RO c D.start h os)) w F) := BothT.call gX hs fun _ h2 _ _ => call_ro h2 fun _ h3 _ => rStart_c h3
theorem r_crash2 (gX : Good X) (hs : BothT X (RO c D h os) w F) {w0 : World} {kv : Value} {l : List Int} (hk : SliceOf AllB 1 KInt.R w0 kv l) (o : Only NoF w0 w) (hl : l.length ≤ 1000) (hS : ∀ k, F.m k → w0.heap.size ≤ k) : Calls Tryz.prog 15 [.pointer (some ⟨c, 0, none⟩), kv].toArray w (TurnTo (.tuple #[]) (BothT X (RO c (D.crash l) h os)) w F) :=
 BothT.call gX hs fun _ h2 hm2 _ => call_ro h2 fun F2 h3 hm => rCrash_c h3 (ints_lt hk o) hl fun k hk hF => by have := hS k (hm2 k (hm k hF)); omega
theorem r_arm2 (gX : Good X) (hs : BothT X (RO c D h os) w F) {w0 : World} {kv : Value} {l : List Int} (hk : SliceOf AllB 1 KInt.R w0 kv l) (o : Only NoF w0 w) (hl : l.length ≤ 1000) {n : Int} (hn : I64 n) (hS : ∀ k, F.m k → w0.heap.size ≤ k) : Calls Tryz.prog 13 [.pointer (some ⟨c, 0, none⟩), .int .i64 n, kv].toArray w (TurnTo (.tuple #[]) (BothT X (RO c (D.arm n l) h os)) w F) :=
 BothT.call gX hs fun _ h2 hm2 _ => call_ro h2 fun F2 h3 hm => rArm_c h3 n hn (ints_lt hk o) hl fun k hk e => by
  have hc : F2.m c := by obtain ⟨x, _, rfl⟩ := h3; exact .inl rfl
  have := hS k (hm2 k (hm k (by rw [e]; exact hc))); omega
/-! ### opening -/
def OpenSL (b : Nat) (r : Dsk × Int × Option Jn) (h : Int) (Y : Thing) (w : World) (F : Foot) (e : Ending) (w' : World) : Prop := ∃ os, os.map (·.2.2) = r.2.2 ∧ e = .returned (.tuple #[sp os, .int .i64 r.2.1]) ∧ ThingTo (BothT (SO b r.1 h os) Y) w F w'
def OpenRL (c : Nat) (r : Dsk × Int × Option Jn) (h : Int) (X : Thing) (w : World) (F : Foot) (e : Ending) (w' : World) : Prop := ∃ os, os.map (·.2.2) = r.2.2 ∧ e = .returned (.tuple #[sp os, .int .i64 r.2.1]) ∧ ThingTo (BothT X (RO c r.1 h os)) w F w'
theorem l_sopen (gY : Good Y) (hG : Gr w) (hs : BothT (SO b D h0 os) Y w F) (h6 : ∀ k, F.m k → 6 ≤ k) : Calls Tryz.prog 8 [.pointer (some ⟨b, 0, none⟩), .int .i64 h].toArray w (OpenSL b (openS D h) h Y w F) := by
 obtain ⟨G1, G2, h1, h2, s1, s2, rfl⟩ := hs
 obtain ⟨F2, h3, hm, hr⟩ := so_disk h1
 refine (sOpen_v_ hG h3 (fun k hk => h6 k (.inl (hm k hk))) (h := h)).mono ?_
 rintro e w' (⟨e1, he, ht⟩ | ⟨J, g, jg, e1, he, ht⟩)
 · exact ⟨none, e1.symm, he, BothT.combl gY h2 s1 s2 (ht.low hm hr)⟩
 · exact ⟨some (g, jg, J), e1.symm, he, BothT.combl gY h2 s1 s2 (ht.low hm hr)⟩
theorem r_sopen (gX : Good X) (hs : BothT X (RO c D h0 os) w F) : Calls Tryz.prog 9 [.pointer (some ⟨c, 0, none⟩), .int .i64 h].toArray w (OpenRL c (openS D h) h X w F) := by
 obtain ⟨G1, G2, h1, h2, s1, s2, rfl⟩ := hs
 obtain ⟨F2, h3, hm, hr⟩ := ro_disk h2
 refine (rOpen_v_ h3 (h := h)).mono ?_
 rintro e w' (⟨e1, he, ht⟩ | ⟨J, g, kg, e1, he, ht⟩)
 · exact ⟨none, e1.symm, he, BothT.comb gX h1 s1 s2 (ht.low hm hr)⟩
 · exact ⟨some (g, kg, J), e1.symm, he, BothT.comb gX h1 s1 s2 (ht.low hm hr)⟩
/-! ### the store's calls -/
theorem so_write (hG : Gr w) (hs : ST b g jg D h J w F) (h6 : ∀ k, F.m k → 6 ≤ k) (hsi : SI h J) {d : Int} {q : List RM} {t : Str} {v2 : Value} (f2 : RefsV w v2 q) (hh : I64 h) (hd : I64 d) (ht : t.length ≤ maxLen) (hq : q.length ≤ 1000) :
 Calls Tryz.prog 18 [.pointer (some ⟨g, 0, none⟩), .int .i64 d, v2, strV t].toArray w (TurnTo (.int .i64 (J.writeS D h d q t).2.2) (ST b g jg (J.writeS D h d q t).1 h (J.writeS D h d q t).2.1) w F) := by
 obtain ⟨G1, G2, ⟨A, c, Ls, S, e, h1, h2, h3, h4, h5, rfl⟩, hj, s1, s2, rfl⟩ := hs
 have hq2 : ∀ r ∈ q, I64 r.h ∧ I64 r.n := Row.oks KRef f2
 obtain ⟨A2, c2, rfl, _⟩ := SliceOf.shape f2
 by_cases hz : check (J.l.map decN ++ [newN h J.l d q t]) = 0
 · exact sWrite_y_ hG h1 h2 h3 h4 h5 e hj (s1 g (.inl rfl)) (fun k hk => s1 k (.inr hk)) (fun k hk hF => s2 k hF (.inr hk)) h6 hsi f2 hh hd ht hq hq2 hz
 · exact sWrite_n_ hG h1 h2 h3 h4 h5 e hj (s1 g (.inl rfl)) (fun k hk => s1 k (.inr hk)) (fun k hk hF => s2 k hF (.inr hk)) h6 hsi f2 hh hd ht hq hz
theorem so_tell (hG : Gr w) (hs : ST b g jg D h J w F) (h6 : ∀ k, F.m k → 6 ≤ k) (hsi : SI h J) :
 Calls Tryz.prog 20 [.pointer (some ⟨g, 0, none⟩)].toArray w (TellTo (J.l.map decN) (J.sync D).2.2 (ST b g jg (J.sync D).1 h (J.sync D).2.1) w F) := by
 obtain ⟨G1, G2, ⟨A, c, Ls, S, e, h1, h2, h3, h4, h5, rfl⟩, hj, s1, s2, rfl⟩ := hs
 exact sTell_v_ hG h1 h2 h3 h4 h5 e hj (s1 g (.inl rfl)) (fun k hk => s1 k (.inr hk)) (fun k hk hF => s2 k hF (.inr hk)) h6 hsi
theorem so_all (hs : ST b g jg D h J w F) (hsi : SI h J) : Calls Tryz.prog 23 [.pointer (some ⟨g, 0, none⟩)].toArray w (AllN (J.l.map decN) w) := by
 obtain ⟨G1, G2, ⟨A, c, Ls, S, e, h1, h2, h3, h4, h5, rfl⟩, hj, s1, s2, rfl⟩ := hs
 have hl : Ls.length = J.l.length := by
  have := congrArg List.length e
  rwa [List.length_map, List.length_map] at this
 have := si_len hsi
 have r := sAll_v_ h1 (notes_of h2 h3) (by omega) (need_len hsi e)
 rwa [e] at r
theorem TellTo.combl {N : List NM} {er : Int} {e : Ending} (gY : Good Y) (h2 : Y w G2) (s1 : ∀ k, G1.m k → ¬ G2.all k) (s2 : ∀ k, G2.m k → ¬ G1.all k) (ht : TellTo N er X' w G1 e w') : TellTo N er (BothT X' Y) w ⟨fun k => G1.m k ∨ G2.m k, fun k => G1.r k ∨ G2.r k⟩ e w' := by
 obtain ⟨w1, A, c, L, ht, r⟩ := ht
 exact ⟨w1, A, c, L, BothT.combl gY h2 s1 s2 ht, r⟩
theorem TellTo.comb {N : List NM} {er : Int} {e : Ending} (gX : Good X) (h1 : X w G1) (s1 : ∀ k, G1.m k → ¬ G2.all k) (s2 : ∀ k, G2.m k → ¬ G1.all k) (ht : TellTo N er Y' w G2 e w') : TellTo N er (BothT X Y') w ⟨fun k => G1.m k ∨ G2.m k, fun k => G1.r k ∨ G2.r k⟩ e w' := by
 obtain ⟨w1, A, c, L, ht, r⟩ := ht
 exact ⟨w1, A, c, L, BothT.comb gX h1 s1 s2 ht, r⟩
theorem l_write2 (gY : Good Y) (hG : Gr w) (hs : BothT (ST b g jg D h J) Y w F) (h6 : ∀ k, F.m k → 6 ≤ k) (hsi : SI h J) {d : Int} {q : List RM} {t : Str} {v2 : Value} (f2 : RefsV w v2 q) (hh : I64 h) (hd : I64 d) (ht : t.length ≤ maxLen) (hq : q.length ≤ 1000) :
 Calls Tryz.prog 18 [.pointer (some ⟨g, 0, none⟩), .int .i64 d, v2, strV t].toArray w (TurnTo (.int .i64 (J.writeS D h d q t).2.2) (BothT (ST b g jg (J.writeS D h d q t).1 h (J.writeS D h d q t).2.1) Y) w F) :=
 BothT.calll gY hs fun _ h1 hm => so_write hG h1 (fun k hk => h6 k (hm k hk)) hsi f2 hh hd ht hq
theorem l_tell2 (gY : Good Y) (hG : Gr w) (hs : BothT (ST b g jg D h J) Y w F) (h6 : ∀ k, F.m k → 6 ≤ k) (hsi : SI h J) :
 Calls Tryz.prog 20 [.pointer (some ⟨g, 0, none⟩)].toArray w (TellTo (J.l.map decN) (J.sync D).2.2 (BothT (ST b g jg (J.sync D).1 h (J.sync D).2.1) Y) w F) := by
 obtain ⟨G1, G2, h1, h2, s1, s2, rfl⟩ := hs
 exact (so_tell hG h1 (fun k hk => h6 k (.inl hk)) hsi).mono fun e w' ht => TellTo.combl gY h2 s1 s2 ht
theorem r_write2 (gX : Good X) (hs : BothT X (RST c g kg D h J) w F) (hsi : SI h J) {d : Int} {q : List RM} {t : Str} {v2 : Value} (f2 : RefsV w v2 q) (hh : I64 h) (hd : I64 d) (ht : t.length ≤ maxLen) (hq : q.length ≤ 1000) :
 Calls Tryz.prog 19 [.pointer (some ⟨g, 0, none⟩), .int .i64 d, v2, strV t].toArray w (TurnTo (.int .i64 (J.writeS D h d q t).2.2) (BothT X (RST c g kg (J.writeS D h d q t).1 h (J.writeS D h d q t).2.1)) w F) :=
 BothT.call gX hs fun _ h2 _ _ => by
  obtain ⟨G1, G2, ⟨hB, rfl⟩, hk, s1, s2, rfl⟩ := h2
  have hq2 : ∀ r ∈ q, I64 r.h ∧ I64 r.n := Row.oks KRef f2
  obtain ⟨A2, c2, rfl, _⟩ := SliceOf.shape f2
  have key : Calls Tryz.prog 19 [.pointer (some ⟨g, 0, none⟩), .int .i64 d, .slice A2 q.length c2, strV t].toArray w (TurnTo (.int .i64 (J.writeS D h d q t).2.2) (KT c kg (J.writeS D h d q t).1 (J.writeS D h d q t).2.1) w G2) := by
   by_cases hz : check (J.l.map decN ++ [newN h J.l d q t]) = 0
   · exact rWrite_y_ hB hk (s1 g rfl) hsi f2 hh hd ht hq hq2 hz
   · exact rWrite_n_ hB hk (s1 g rfl) hsi f2 hh hd ht hq hz
  exact key.mono fun e w' ⟨he, ht⟩ => ⟨he, BothT.comb (rb_good _ _ _) ⟨hB, rfl⟩ s1 s2 ht⟩
theorem r_tell2 (gX : Good X) (hs : BothT X (RST c g kg D h J) w F) (hsi : SI h J) :
 Calls Tryz.prog 21 [.pointer (some ⟨g, 0, none⟩)].toArray w (TellTo (J.l.map decN) (J.sync D).2.2 (BothT X (RST c g kg (J.sync D).1 h (J.sync D).2.1)) w F) := by
 obtain ⟨G1, G2, h1, ⟨G3, G4, ⟨hB, rfl⟩, hk, t1, t2, rfl⟩, s1, s2, rfl⟩ := hs
 exact (rTell_v_ hB hk (t1 g rfl) hsi).mono fun e w' ht => TellTo.comb gX h1 s1 s2 (TellTo.comb (rb_good _ _ _) ⟨hB, rfl⟩ t1 t2 ht)
theorem r_all2 (hs : RST c g kg D h J w F) (hsi : SI h J) : Calls Tryz.prog 24 [.pointer (some ⟨g, 0, none⟩)].toArray w (AllN (J.l.map decN) w) := by
 obtain ⟨G1, G2, ⟨hB, rfl⟩, hk, s1, s2, rfl⟩ := hs
 exact rAll_v_ hB hk (s1 g rfl) hsi
theorem both_l (hs : BothT X Y w F) : ∃ F2, X w F2 := by
 obtain ⟨G1, G2, h1, _⟩ := hs
 exact ⟨G1, h1⟩
theorem both_r (hs : BothT X Y w F) : ∃ F2, Y w F2 := by
 obtain ⟨G1, G2, _, h2, _⟩ := hs
 exact ⟨G2, h2⟩
theorem both_new2 {wm : World} (h1 : SO b D h none w G1) (hg : ∀ k, G1.all k → wm.heap.size ≤ k) (hw : wm.heap.size ≤ w.heap.size) (h2 : IsRef w' c D2 G2) (o : Only NoF w w') (hn : ∀ k, G2.all k → w.heap.size ≤ k) : BothT (SO b D h none) (RO c D2 h none) w' ⟨fun k => G1.m k ∨ G2.m k, fun k => G1.r k ∨ G2.r k⟩ ∧ ∀ k, Foot.all ⟨fun k => G1.m k ∨ G2.m k, fun k => G1.r k ∨ G2.r k⟩ k → wm.heap.size ≤ k :=
 both_new (D := D) h1 hg hw h2 o hn
end
/-! ### an act -/
structure ActM where
 k : Int
 d : Int
 n : Int
 A : Option Addr
 q : List RM
 c : Nat
 s : Str
 B : Option Addr
 l : List Int
 e : Nat
def KAct (w : World) : Row ActM := ⟨6, fun m => [.int .i64 m.k, .int .i64 m.d, .int .i64 m.n, .slice m.A m.q.length m.c, strV m.s, .slice m.B m.l.length m.e],
 fun m => I64 m.k ∧ I64 m.d ∧ I64 m.n ∧ RefsV w (.slice m.A m.q.length m.c) m.q ∧ m.s.length ≤ maxLen ∧ IntsV w (.slice m.B m.l.length m.e) m.l, fun _ => rfl, by decide, fun x u hu => by
 simp at hu
 rcases hu with rfl | rfl | rfl | rfl | rfl | rfl <;> rfl⟩
abbrev ActsV (w0 w : World) (v : Value) (l : List ActM) : Prop := SliceOf AllB 6 (KAct w0).R w v l
theorem acts_up {w w' W : World} {v : Value} {l : List ActM} (h : SliceOf AllB 6 (KAct w).R W v l) (o : Only NoF w w') : SliceOf AllB 6 (KAct w').R W v l :=
 SliceOf.only h (Only.refl NoF W) (fun _ _ h => h) fun cs x _ hR => ⟨hR.1, hR.2.1, hR.2.2.1, hR.2.2.2.1, SliceOf.kp hR.2.2.2.2.1 o (fun _ _ h => h) (fun _ _ _ _ h => h), hR.2.2.2.2.2.1, SliceOf.kp hR.2.2.2.2.2.2 o (fun _ _ h => h) (fun _ _ _ _ h => h)⟩
def actFew (m : ActM) : Prop := m.s.length ≤ 8010 ∧ m.l.length ≤ 40 ∧ m.q.length ≤ 45
def FewA (l : List ActM) : Prop := l.length ≤ 25 ∧ ∀ m ∈ l, actFew m
end
section
open Go.RowKit
theorem rdF_len {n k : Nat} (h : (decide ((k : Int) < ((n : Nat) : Int)) && decide ((k : Int) ≤ 25)) = false) (h2 : ((n : Nat) : Int) ≤ 25) : n ≤ k := by
 simp only [Bool.and_eq_false_iff, decide_eq_false_iff_not] at h
 omega
theorem fewA_v_ {w : World} {l : List ActM} {A1 : Option Addr} {c1 : Nat} (f1 : ActsV w w (.slice A1 l.length c1) l) : Calls Tryz.prog 5 [.slice A1 l.length c1].toArray w (Tells (FewA l) w) := by
 have hbd1 := Nat.le_trans (SliceOf.cap_ f1) (SliceOf.lens f1).2
 refine calls_start Tryz.func5 rfl rfl ?_
 intro az Z
 rw [Tryz.ntmps5] at Z
 refine wp_seq_k fun _ k1 => wp_region_lit ?_
 refine L (r_as Z rfl) Z rfl ?_; clear Z az; intro az Z
 refine k1 _ _ (wp_seq_k fun _ k2 => ?_)
 refine wp_seq_k fun _ k3 => wp_region_lit ?_
 refine L (r_as Z rfl) Z rfl ?_; clear Z az; intro az Z
 refine k3 _ _ ?_
 refine wp_block ?_
 refine wp_loop_m (fun mz az W => ∃ k : Nat, mz = l.length - k ∧ Fr 52 [(0, .slice A1 (l.length) c1), (3, .int .i64 ((k : Int)))] az ∧ (k ≤ l.length) ∧ (∀ x ∈ l.take k, actFew x) ∧ Only NoF w W) ?_ ?_
 ·
  exact ⟨_, 0, rfl, Z.cut ⟨rfl, rfl, trivial⟩, Nat.zero_le _, (fun x h => by cases h), (Only.refl NoF w)⟩
 clear Z az
 rintro mz az w4 ⟨k, hm6, Z, hk, hpl, o5⟩
 refine wp_seq_k fun _ k7 => ?_
 refine wp_seq_k fun _ k8 => wp_region_lit ?_
 refine L (r_mv Z rfl) Z rfl ?_; clear Z az; intro az Z
 refine L (r_mv Z rfl) Z rfl ?_; clear Z az; intro az Z
 refine L (r_lenL Tryz.underlying22 Z rfl) Z rfl ?_; clear Z az; intro az Z
 refine L (r_ltI Z rfl rfl) Z rfl ?_; clear Z az; intro az Z
 refine L (r_mv Z rfl) Z rfl ?_; clear Z az; intro az Z
 refine LG Z rfl rfl gd_t (fun hb => r_mv Z rfl) rfl ?_; clear Z az; intro az Z
 refine LG Z rfl rfl gd_t (fun hb => r_leI Z (evg hb rfl) rfl) rfl ?_; clear Z az; intro az Z
 refine L (r_and Z rfl rfl rfl) Z rfl ?_; clear Z az; intro az Z
 refine k8 _ _ ?_
 refine br Z rfl (fun hc9 => ?_) (fun hc9 => ?_)
 ·
  have p10 := of_decide_eq_true (and_t hc9).1
  have p11 := of_decide_eq_true (and_t hc9).2
  refine wp_skip ?_
  refine k7 _ _ (wp_seq_k fun _ k12 => ?_)
  refine wp_block ?_
  refine wp_seq_k fun _ k13 => wp_region_lit ?_
  refine L (r_mv Z rfl) Z rfl ?_; clear Z az; intro az Z
  refine L (r_mv Z rfl) Z rfl ?_; clear Z az; intro az Z
  have hk14 : k < (l).length := by omega
  have h20 := (SliceOf.kp f1 o5 (fun _ _ h => h) (fun _ _ _ _ h => h))
  obtain ⟨m15, hm16, ok17, hA18⟩ := Row.el (KAct w) h20 hk14
  have E19 : ∀ W, Only NoF w4 W → CA W (eA A1 6 (k)) [.int .i64 (m15.k), .int .i64 (m15.d), .int .i64 (m15.n), .slice m15.A (m15.q.length) m15.c, strV (m15.s), .slice m15.B (m15.l.length) m15.e] := Row.ce (KAct w) h20 hm16 rfl
  refine L (r_ia (k := k) (size := 6) Tryz.underlying22 Tryz.sizeOf39 Z rfl rfl rfl hk14 hA18) Z rfl ?_; clear Z az; intro az Z
  refine L (r_fa (m' := 4) Tryz.underlying39 rfl Tryz.sizeOf9 rfl Z rfl rfl) Z rfl ?_; clear Z az; intro az Z
  refine L (r_ld Tryz.isAgg9 Z rfl ((E19 _ (Only.refl NoF w4)) 4 _ rfl)) Z rfl ?_; clear Z az; intro az Z
  refine L (r_lenS Tryz.underlying9 Z rfl) Z rfl ?_; clear Z az; intro az Z
  refine L (r_as Z rfl) Z rfl ?_; clear Z az; intro az Z
  refine k13 _ _ (wp_seq_k fun _ k21 => wp_region_lit ?_)
  refine L (r_mv Z rfl) Z rfl ?_; clear Z az; intro az Z
  refine L (r_gtI Z rfl rfl) Z rfl ?_; clear Z az; intro az Z
  refine L (r_mv Z rfl) Z rfl ?_; clear Z az; intro az Z
  refine LG Z rfl rfl gd_t (fun hb => r_mv Z rfl) rfl ?_; clear Z az; intro az Z
  refine LG Z rfl rfl gd_t (fun hb => r_ltI Z (evg hb rfl) rfl) rfl ?_; clear Z az; intro az Z
  refine LG Z rfl rfl gd_t (fun hb => r_mv Z (evg hb rfl)) rfl ?_; clear Z az; intro az Z
  refine LG Z rfl rfl gd_gf (fun hb => r_mv Z rfl) rfl ?_; clear Z az; intro az Z
  refine LG Z rfl rfl gd_gf (fun hb => r_gtI Z (evg hb rfl) rfl) rfl ?_; clear Z az; intro az Z
  refine LG Z rfl rfl gd_t (fun hb => r_or Z (evg hb rfl) rfl (evgc hb rfl)) rfl ?_; clear Z az; intro az Z
  refine L (r_and Z rfl rfl rfl) Z rfl ?_; clear Z az; intro az Z
  refine L (r_mv Z rfl) Z rfl ?_; clear Z az; intro az Z
  refine LG Z rfl rfl gd_f (fun hb => r_mv Z rfl) rfl ?_; clear Z az; intro az Z
  refine LG Z rfl rfl gd_f (fun hb => r_mv Z rfl) rfl ?_; clear Z az; intro az Z
  refine LG Z rfl rfl gd_f (fun hb => r_ia (k := k) (size := 6) Tryz.underlying22 Tryz.sizeOf39 Z (evg hb rfl) (evg hb rfl) rfl hk14 hA18) rfl ?_; clear Z az; intro az Z
  refine LG Z rfl rfl gd_f (fun hb => r_fa (m' := 5) Tryz.underlying39 rfl Tryz.sizeOf37 rfl Z (evg hb rfl) rfl) rfl ?_; clear Z az; intro az Z
  refine LG Z rfl rfl gd_f (fun hb => r_ld Tryz.isAgg37 Z (evg hb rfl) ((E19 _ (Only.refl NoF w4)) 5 _ rfl)) rfl ?_; clear Z az; intro az Z
  refine LG Z rfl rfl gd_f (fun hb => r_lenL Tryz.underlying37 Z (evg hb rfl)) rfl ?_; clear Z az; intro az Z
  refine LG Z rfl rfl gd_f (fun hb => r_gtI Z (evg hb rfl) rfl) rfl ?_; clear Z az; intro az Z
  refine L (r_or Z rfl rfl rfl) Z rfl ?_; clear Z az; intro az Z
  refine L (r_mv Z rfl) Z rfl ?_; clear Z az; intro az Z
  refine LG Z rfl rfl gd_f (fun hb => r_mv Z rfl) rfl ?_; clear Z az; intro az Z
  refine LG Z rfl rfl gd_f (fun hb => r_mv Z rfl) rfl ?_; clear Z az; intro az Z
  refine LG Z rfl rfl gd_f (fun hb => r_ia (k := k) (size := 6) Tryz.underlying22 Tryz.sizeOf39 Z (evg hb rfl) (evg hb rfl) rfl hk14 hA18) rfl ?_; clear Z az; intro az Z
  refine LG Z rfl rfl gd_f (fun hb => r_fa (m' := 3) Tryz.underlying39 rfl Tryz.sizeOf36 rfl Z (evg hb rfl) rfl) rfl ?_; clear Z az; intro az Z
  refine LG Z rfl rfl gd_f (fun hb => r_ld Tryz.isAgg36 Z (evg hb rfl) ((E19 _ (Only.refl NoF w4)) 3 _ rfl)) rfl ?_; clear Z az; intro az Z
  refine LG Z rfl rfl gd_f (fun hb => r_lenL Tryz.underlying36 Z (evg hb rfl)) rfl ?_; clear Z az; intro az Z
  refine LG Z rfl rfl gd_f (fun hb => r_gtI Z (evg hb rfl) rfl) rfl ?_; clear Z az; intro az Z
  refine L (r_or Z rfl rfl rfl) Z rfl ?_; clear Z az; intro az Z
  refine k21 _ _ ?_
  refine br Z rfl (fun hc22 => ?_) (fun hc22 => ?_)
  ·
   have d23 := hc22
   refine wp_seq_k fun _ k24 => wp_region_lit ?_
   refine L (r_as Z rfl) Z rfl ?_; clear Z az; intro az Z
   refine k24 _ _ ?_
   refine wp_ret ?_
   show bodyPost _ _ _ .ret _ _
   refine ret_of (vs := [.bool (false)]) Z Tryz.results5 ⟨rfl, trivial⟩ ?_
   exact ⟨false, rfl, (fun h => by cases h), o5⟩
  ·
   have d25 := (or_f (or_f hc22).1).1
   have p26 := of_decide_eq_false (or_f (or_f hc22).1).2
   have p27 := of_decide_eq_false (or_f hc22).2
   refine wp_skip ?_
   refine k12 _ _ ?_
   refine wp_region_lit ?_
   refine L (r_mv Z rfl) Z rfl ?_; clear Z az; intro az Z
   have i28 : I64 (((k : Int) + 1)) := by unfold I64; omega
   refine L (r_addI (r := ((k : Int) + 1)) Z rfl rfl rfl i28) Z rfl ?_; clear Z az; intro az Z
   refine L (r_as Z rfl) Z rfl ?_; clear Z az; intro az Z
   exact ⟨_, (by omega), k + 1, rfl, Z.cut ⟨rfl, rfl, trivial⟩, (by omega), (opfew_step hm16 hpl (by have h := hc22; simp only [Bool.or_eq_false_iff, Bool.and_eq_false_iff, decide_eq_false_iff_not] at h; unfold actFew; omega)), o5⟩
 ·
  have d29 := hc9
  refine wp_exit ?_
  refine th_exit ?_
  refine th_exit ?_
  refine ib_hit ?_
  refine k2 _ _ (wp_seq_k fun _ k30 => wp_region_lit ?_)
  refine L (r_mv Z rfl) Z rfl ?_; clear Z az; intro az Z
  refine L (r_lenL Tryz.underlying22 Z rfl) Z rfl ?_; clear Z az; intro az Z
  refine L (r_leI Z rfl rfl) Z rfl ?_; clear Z az; intro az Z
  refine L (r_as Z rfl) Z rfl ?_; clear Z az; intro az Z
  refine k30 _ _ ?_
  refine wp_ret ?_
  show bodyPost _ _ _ .ret _ _
  refine ret_of (vs := [.bool (decide (((l.length : Nat) : Int) ≤ 25))]) Z Tryz.results5 ⟨rfl, trivial⟩ ?_
  exact ⟨_, rfl, fun hf => ⟨by have := of_decide_eq_true hf; omega, by have h2 := of_decide_eq_true hf; have h3 := rdF_len hc9 h2; rw [List.take_of_length_le h3] at hpl; exact hpl⟩, o5⟩
/-! ### what sane has behind its calls -/
theorem crashF_nil : ∀ (q : List (Int × Int)) (i : Nat) (g : Int → Str × Str), Dsk.crashF [] i q g = g
 | [], _, _ => rfl
 | p :: q, i, g => by
  show Dsk.crashF [] (i + 1) q (if Dsk.survives [] i then Dsk.survive g p else g) = g
  rw [show Dsk.survives [] i = false by simp [Dsk.survives], if_neg (by decide), crashF_nil q]
theorem calm_crash {D : Dsk} (h : Calm D) : Calm (D.crash []).start ∧ (((D.crash []).start).file 0).1 = (D.file 0).2 := by
 unfold Dsk.crash
 rw [h.down, if_neg (by decide), crashF_nil]
 exact ⟨⟨rfl, rfl, h.lost⟩, rfl⟩
theorem calm_open {D : Dsk} {h : Int} {l : List Str} (c : Calm D) (hh : ¬ (h < 0 ∨ 400 ≤ h)) (hf : recs (D.file 0).1 = l) (hg : goodL h l = true) : ∃ D', openS D h = (D', 0, some ⟨0, l, (forms l).length, false⟩) ∧ Calm D' ∧ (D'.file 0).1 = forms l := by
 obtain ⟨D', e, c', f, _⟩ := openJ_calm c (f := 0) (by decide) (by decide)
 rw [hf] at e f
 refine ⟨D', ?_, c', f⟩
 rw [openS_some hh (by rw [e]) hg, e]
theorem calm_write {D : Dsk} {h d : Int} {q : List RM} {t : Str} {l : List Str} (c : Calm D) (hf : (D.file 0).1 = forms l) (hz : check (l.map decN ++ [newN h l d q t]) = 0) (ht : (encN (newN h l d q t)).length ≤ 1000) (hn : (forms l).length ≤ 10000) :
 ∃ D', (⟨0, l, (forms l).length, false⟩ : Jn).writeS D h d q t = (D', ⟨0, l ++ [encN (newN h l d q t)], (forms (l ++ [encN (newN h l d q t)])).length, false⟩, 0) ∧ Calm D' ∧ (D'.file 0).1 = forms (l ++ [encN (newN h l d q t)]) ∧ (D'.file 0).2 = (D.file 0).2 := by
 have hl := form_len (t := encN (newN h l d q t)) (by omega)
 have hw := c.write (f := 0) (by decide) (by decide) (forms l).length (form (encN (newN h l d q t))) (by omega)
 refine ⟨D.add 0 (forms l).length (form (encN (newN h l d q t))), ?_, c.addc _ _, ?_, ?_⟩
 · unfold Jn.writeS
   rw [if_pos hz]
   show Jn.append (⟨0, l, (forms l).length, false⟩ : Jn) D (encN (newN h l d q t)) = _
   unfold Jn.append
   rw [if_neg (fun h => by cases h), if_neg (by omega), if_neg (by show ¬ _ < (forms l).length + _; omega), hw, if_neg (fun h => h rfl)]
   show (_, (⟨0, _, _, _⟩ : Jn), (0 : Int)) = _
   rw [forms_app, forms_one, List.length_append]
 · rw [add_file, hf, put_end, forms_app, forms_one]
 · unfold Dsk.add
   split
   · rfl
   · unfold Dsk.setFile; simp
theorem calm_sync {D : Dsk} {l : List Str} {n : Nat} (c : Calm D) : ∃ D', (⟨0, l, n, false⟩ : Jn).sync D = (D', ⟨0, l, n, false⟩, 0) ∧ Calm D' ∧ (D'.file 0).1 = (D.file 0).1 ∧ (D'.file 0).2 = (D.file 0).1 := by
 have hs := c.sync (f := 0) (by decide) (by decide)
 refine ⟨D.settle 0 (D.file 0).1, ?_, c.settlec _, settle_file _ _ _, ?_⟩
 · unfold Jn.sync
   rw [if_neg (fun h => by cases h), hs]; rfl
 · simp [Dsk.settle, Dsk.setFile]
abbrev n40a : NM := ⟨2, 0, 4, none, [], 0, [97]⟩
abbrev n40b : NM := ⟨2, 1, 6, none, [], 0, [98]⟩
abbrev n40c : NM := ⟨2, 1, 6, none, [], 0, [99]⟩
abbrev mkJ (l : List Str) : Jn := ⟨0, l, (forms l).length, false⟩
theorem noq : ∀ r ∈ ([] : List RM), I64 r.h ∧ I64 r.n := fun r h => by cases h
theorem e40a : (encN n40a).length ≤ 100 := by decide +kernel
theorem e40b : (encN n40b).length ≤ 100 := by decide +kernel
theorem e40c : (encN n40c).length ≤ 100 := by decide +kernel
theorem sane_plain : ∃ D1 D2 D3 D4 D5 D6 D7, openS Dsk.init 2 = (D1, 0, some (mkJ [])) ∧ (mkJ []).writeS D1 2 4 [] [97] = (D2, mkJ [encN n40a], 0) ∧ (mkJ [encN n40a]).sync D2 = (D3, mkJ [encN n40a], 0) ∧
 (mkJ [encN n40a]).writeS D3 2 6 [] [98] = (D4, mkJ [encN n40a, encN n40b], 0) ∧ openS (D4.crash []).start 2 = (D5, 0, some (mkJ [encN n40a])) ∧ (mkJ [encN n40a]).writeS D5 2 6 [] [99] = (D6, mkJ [encN n40a, encN n40c], 0) ∧
 (mkJ [encN n40a, encN n40c]).sync D6 = (D7, mkJ [encN n40a, encN n40c], 0) ∧ (∀ D, (mkJ [encN n40a, encN n40c]).writeS D 2 3 [] [100] = (D, mkJ [encN n40a, encN n40c], 18)) ∧ (∀ D, (mkJ [encN n40a, encN n40c]).writeS D 2 7 [⟨2, 2⟩] [100] = (D, mkJ [encN n40a, encN n40c], 1)) ∧
 [encN n40a].map decN = [n40a] ∧ [encN n40a, encN n40c].map decN = [n40a, n40c] ∧ SI 2 (mkJ []) ∧ SI 2 (mkJ [encN n40a]) ∧ SI 2 (mkJ [encN n40a, encN n40c]) := by
 have g0 : goodL 2 [] = true := rfl
 have z1 : check (([] : List Str).map decN ++ [newN 2 [] 4 [] [97]]) = 0 := by decide +kernel
 have d1 : decN (encN n40a) = n40a := (new_dec (l := []) (h := 2) (d := 4) (q := []) (t := [97]) noq z1).2
 have g1 : goodL 2 [encN n40a] = true := good_app g0 noq z1
 have z2 : check ([encN n40a].map decN ++ [newN 2 [encN n40a] 6 [] [98]]) = 0 := by
  rw [List.map_singleton, d1]; show check [n40a, n40b] = 0; decide +kernel
 have z3 : check ([encN n40a].map decN ++ [newN 2 [encN n40a] 6 [] [99]]) = 0 := by
  rw [List.map_singleton, d1]; show check [n40a, n40c] = 0; decide +kernel
 have d3 : decN (encN n40c) = n40c := (new_dec (l := [encN n40a]) (h := 2) (d := 6) (q := []) (t := [99]) noq z3).2
 have g3 : goodL 2 [encN n40a, encN n40c] = true := good_app g1 noq z3
 have e1 := e40a
 have e2 := e40b
 have e3 := e40c
 have l1 := form_len (t := encN n40a) (by omega)
 have l2 := form_len (t := encN n40b) (by omega)
 have l3 := form_len (t := encN n40c) (by omega)
 have f1 : (forms [encN n40a]).length ≤ 1000 := by rw [forms_one]; omega
 have f2 : (forms [encN n40a, encN n40c]).length ≤ 1000 := by rw [show [encN n40a, encN n40c] = [encN n40a] ++ [encN n40c] from rfl, forms_app, forms_one, forms_one, List.length_append]; omega
 have r1 : recs (forms [encN n40a]) = [encN n40a] := recs_forms _ fun t ht => by rw [List.mem_singleton.1 ht]; omega
 have hh : ¬ ((2 : Int) < 0 ∨ (400 : Int) ≤ 2) := by decide
 obtain ⟨D1, o1, c1, p1⟩ := calm_open (l := []) Calm.init hh rfl g0
 obtain ⟨D2, o2, c2, p2, _⟩ := calm_write c1 p1 z1 (by show (encN n40a).length ≤ 1000; omega) (by decide)
 obtain ⟨D3, o3, c3, p3, p3'⟩ := calm_sync (l := [encN n40a]) (n := (forms [encN n40a]).length) c2
 obtain ⟨D4, o4, c4, p4, p4'⟩ := calm_write (l := [encN n40a]) c3 (p3.trans p2) z2 (by show (encN n40b).length ≤ 1000; omega) (by omega)
 obtain ⟨c5, p5⟩ := calm_crash c4
 obtain ⟨D5, o5, c6, p6⟩ := calm_open (l := [encN n40a]) (h := 2) c5 hh (by rw [p5, p4', p3', p2]; exact r1) g1
 obtain ⟨D6, o6, c7, p7, _⟩ := calm_write (l := [encN n40a]) c6 p6 z3 (by show (encN n40c).length ≤ 1000; omega) (by omega)
 obtain ⟨D7, o7, c8, p8, _⟩ := calm_sync (l := [encN n40a, encN n40c]) (n := (forms [encN n40a, encN n40c]).length) c7
 have ji : ∀ l : List Str, (∀ t ∈ l, t.length ≤ 100) → (forms l).length ≤ 1000 → JI (mkJ l) := fun l h1 h2 => ⟨rfl, fun t ht => by have := h1 t ht; omega, by show (forms l).length ≤ _; omega⟩
 refine ⟨D1, D2, D3, D4, D5, D6, D7, o1, o2, o3, o4, o5, o6, o7, fun D => ?_, fun D => ?_, by rw [List.map_singleton, d1], by rw [List.map_cons, List.map_singleton, d1, d3], ⟨ji [] (fun t h => by cases h) (by decide), g0⟩, ⟨ji _ (fun t h => by rw [List.mem_singleton.1 h]; exact e1) f1, g1⟩, ⟨ji _ (fun t h => by simp at h; rcases h with rfl | rfl <;> omega) f2, g3⟩⟩
 · have hz : check ([encN n40a, encN n40c].map decN ++ [newN 2 [encN n40a, encN n40c] 3 [] [100]]) = 18 := by
    rw [List.map_cons, List.map_singleton, d1, d3]; show check [n40a, n40c, ⟨2, 2, 3, none, [], 0, [100]⟩] = 18; decide +kernel
   rw [writeS_n (J := mkJ [encN n40a, encN n40c]) (by rw [hz]; decide), hz]
 · have hz : check ([encN n40a, encN n40c].map decN ++ [newN 2 [encN n40a, encN n40c] 7 [⟨2, 2⟩] [100]]) = 1 := by
    rw [List.map_cons, List.map_singleton, d1, d3]; show check [n40a, n40c, ⟨2, 2, 7, none, [⟨2, 2⟩], 0, [100]⟩] = 1; decide +kernel
   rw [writeS_n (J := mkJ [encN n40a, encN n40c]) (by rw [hz]; decide), hz]
section
variable {w : World} {b g jg : Nat} {D D' : Dsk} {h h0 d er : Int} {J J' : Jn} {F : Foot} {os : Option (Nat × Nat × Jn)}
def OpenS1 (b : Nat) (D' : Dsk) (h : Int) (J : Jn) (w : World) (F : Foot) (e : Ending) (w' : World) : Prop := ∃ g jg, e = .returned (.tuple #[.pointer (some ⟨g, 0, none⟩), .int .i64 0]) ∧ ThingTo (ST b g jg D' h J) w F w'
theorem open_1 (hG : Gr w) (hs : SO b D h0 os w F) (h6 : ∀ k, F.m k → 6 ≤ k) (ho : openS D h = (D', 0, some J)) : Calls Tryz.prog 8 [.pointer (some ⟨b, 0, none⟩), .int .i64 h].toArray w (OpenS1 b D' h J w F) := by
 obtain ⟨F2, h3, hm, hr⟩ := so_disk hs
 refine (sOpen_v_ hG h3 (fun k hk => h6 k (hm k hk)) (h := h)).mono ?_
 rw [ho]
 rintro e w' (⟨e1, he, ht⟩ | ⟨J2, g, jg, e1, he, ht⟩)
 · cases e1
 · cases e1
   exact ⟨g, jg, he, ht.low hm hr⟩
theorem write_1 (hG : Gr w) (hs : ST b g jg D h J w F) (h6 : ∀ k, F.m k → 6 ≤ k) (hsi : SI h J) {q : List RM} {t : Str} {v2 : Value} (f2 : RefsV w v2 q) (hh : I64 h) (hd : I64 d) (ht : t.length ≤ maxLen) (hq : q.length ≤ 1000) (ho : J.writeS D h d q t = (D', J', er)) :
 Calls Tryz.prog 18 [.pointer (some ⟨g, 0, none⟩), .int .i64 d, v2, strV t].toArray w (TurnTo (.int .i64 er) (ST b g jg D' h J') w F) := by
 have := so_write hG hs h6 hsi f2 hh hd ht hq
 rwa [ho] at this
theorem tell_1 (hG : Gr w) (hs : ST b g jg D h J w F) (h6 : ∀ k, F.m k → 6 ≤ k) (hsi : SI h J) (ho : J.sync D = (D', J', 0)) {N : List NM} (hN : J.l.map decN = N) :
 Calls Tryz.prog 20 [.pointer (some ⟨g, 0, none⟩)].toArray w (TellTo N 0 (ST b g jg D' h J') w F) := by
 have := so_tell hG hs h6 hsi
 rwa [ho, hN] at this
theorem crash_1 (hs : ST b g jg D h J w F) : Calls Tryz.prog 14 [.pointer (some ⟨b, 0, none⟩), .slice none 0 0].toArray w (TurnTo (.tuple #[]) (ST b g jg (D.crash []) h J) w F) :=
 call_so (os := some (g, jg, J)) hs fun F2 h2 _ => by
  obtain ⟨x, hx, rfl⟩ := h2
  exact dCrash_c hx [] none 0 (fun _ => False) ⟨rfl, fun hn => absurd hn (by decide)⟩ (by decide) fun k hk => hk.elim
end
theorem sane40_ {w : World} (hG : Gr w) {D1 D2 D3 D4 D5 D6 D7 : Dsk} (ze1 : openS Dsk.init 2 = (D1, 0, some (mkJ []))) (zw1 : (mkJ []).writeS D1 2 4 [] [97] = (D2, mkJ [encN n40a], 0)) (zs1 : (mkJ [encN n40a]).sync D2 = (D3, mkJ [encN n40a], 0)) (zw2 : (mkJ [encN n40a]).writeS D3 2 6 [] [98] = (D4, mkJ [encN n40a, encN n40b], 0)) (ze5 : openS (D4.crash []).start 2 = (D5, 0, some (mkJ [encN n40a]))) (zw3 : (mkJ [encN n40a]).writeS D5 2 6 [] [99] = (D6, mkJ [encN n40a, encN n40c], 0)) (zs2 : (mkJ [encN n40a, encN n40c]).sync D6 = (D7, mkJ [encN n40a, encN n40c], 0)) (zw4 : ∀ D, (mkJ [encN n40a, encN n40c]).writeS D 2 3 [] [100] = (D, mkJ [encN n40a, encN n40c], 18)) (zw5 : ∀ D, (mkJ [encN n40a, encN n40c]).writeS D 2 7 [⟨2, 2⟩] [100] = (D, mkJ [encN n40a, encN n40c], 1)) (zl1 : [encN n40a].map decN = [n40a]) (zl2 : [encN n40a, encN n40c].map decN = [n40a, n40c]) (si0 : SI 2 (mkJ [])) (si1 : SI 2 (mkJ [encN n40a])) (si2 : SI 2 (mkJ [encN n40a, encN n40c])) : Calls Tryz.prog 4 ([] : List Value).toArray w (Fix (.bool true) w) := by
 refine calls_start Tryz.func4 rfl rfl ?_
 intro az Z
 rw [Tryz.ntmps4] at Z
 refine wp_seq_k fun _ k1 => wp_region_lit ?_
 refine L (r_as Z rfl) Z rfl ?_; clear Z az; intro az Z
 refine k1 _ _ (wp_seq_k fun _ k2 => wp_region_lit ?_)
 refine LC Z rfl rfl Tryz.call6 (dNew_l _) rfl ?_
 rintro e w5 ⟨b3, F4, rfl, h6, o7, hge8⟩; refine ⟨_, rfl, ?_⟩
 clear Z az; intro az Z
 refine L (r_as Z rfl) Z rfl ?_; clear Z az; intro az Z
 refine k2 _ _ (wp_seq_k fun _ k9 => ?_)
 refine wp_seq_k fun _ k10 => wp_region_lit ?_
 refine L (r_mv Z rfl) Z rfl ?_; clear Z az; intro az Z
 refine L (r_eqP Tryz.underlying25 Z rfl rfl) Z rfl ?_; clear Z az; intro az Z
 refine k10 _ _ ?_
 refine br_false Z rfl ?_
 refine wp_skip ?_
 refine k9 _ _ (wp_seq_k fun _ k11 => wp_region_lit ?_)
 refine L (r_mv Z rfl) Z rfl ?_; clear Z az; intro az Z
 have G20 := Gr.k hG o7
 refine LC Z rfl rfl Tryz.call8 (open_1 (os := none) (h0 := 2) G20 h6 (fun k hk => Nat.le_trans (Nat.le_trans hG.1 (Nat.le_refl _)) (hge8 k (.inl hk))) ze1) rfl ?_
 rintro e w14 ⟨g12, jg13, rfl, F15, h16, o17, fm18, fr19⟩; refine ⟨_, rfl, ?_⟩
 have hge21 := ge_next hge8 (size_only o7) fm18 fr19
 clear Z az; intro az Z
 refine L (r_mv Z rfl) Z rfl ?_; clear Z az; intro az Z
 refine L (r_ex Z rfl rfl) Z rfl ?_; clear Z az; intro az Z
 refine L (r_ex Z rfl rfl) Z rfl ?_; clear Z az; intro az Z
 refine L (r_as Z rfl) Z rfl ?_; clear Z az; intro az Z
 refine L (r_as Z rfl) Z rfl ?_; clear Z az; intro az Z
 refine k11 _ _ (wp_seq_k fun _ k22 => ?_)
 refine wp_seq_k fun _ k23 => wp_region_lit ?_
 refine L (r_mv Z rfl) Z rfl ?_; clear Z az; intro az Z
 refine L (r_eqP Tryz.underlying29 Z rfl rfl) Z rfl ?_; clear Z az; intro az Z
 refine L (r_mv Z rfl) Z rfl ?_; clear Z az; intro az Z
 refine LT Z rfl rfl (r_mv Z rfl) rfl ?_; clear Z az; intro az Z
 refine LT Z rfl rfl (r_neRI Z rfl rfl) rfl ?_; clear Z az; intro az Z
 refine L (r_pick Z rfl rfl rfl) Z rfl ?_; clear Z az; intro az Z
 refine k23 _ _ ?_
 refine br_false Z rfl ?_
 refine wp_skip ?_
 refine k22 _ _ (wp_seq_k fun _ k24 => wp_region_lit ?_)
 refine L (r_mv Z rfl) Z rfl ?_; clear Z az; intro az Z
 have O26 : Only NoF w w14 := (o_sg o7 o17 (Nat.le_refl _) (fun k h => hge8 k (.inl h)))
 have G25 := Gr.k hG O26
 refine LC Z rfl rfl Tryz.call18 (write_1 (t := [97]) G25 h16 (fun k hk => Nat.le_trans (Nat.le_trans hG.1 (Nat.le_refl _)) (hge21 k (.inl hk))) si0 (SliceOf.nil_ _ _ _) (by unfold I64; omega) (by unfold I64; omega) (by unfold maxLen; decide) (by decide) zw1) rfl ?_
 rintro e w27 ⟨rfl, F28, h29, o30, fm31, fr32⟩; refine ⟨_, rfl, ?_⟩
 have hge33 := ge_next hge21 (size_only O26) fm31 fr32
 clear Z az; intro az Z
 refine L (r_as Z rfl) Z rfl ?_; clear Z az; intro az Z
 refine k24 _ _ (wp_seq_k fun _ k34 => wp_region_lit ?_)
 refine L (r_mv Z rfl) Z rfl ?_; clear Z az; intro az Z
 have O51 : Only NoF w w27 := (o_sg O26 o30 (Nat.le_refl _) (fun k h => hge21 k (.inl h)))
 have G50 := Gr.k hG O51
 refine LC Z rfl rfl Tryz.call20 (tell_1 G50 h29 (fun k hk => Nat.le_trans (Nat.le_trans hG.1 (Nat.le_refl _)) (hge33 k (.inl hk))) si1 zs1 zl1) rfl ?_
 rintro e w36 ⟨w35, A37, c38, L39, ⟨F40, h41, o42, fm43, fr44⟩, rfl, hL45, r46, hN47, o48⟩
 rw [if_pos rfl] at hL45
 have ln49 : L39.length = 1 := by have := congrArg List.length hL45; rw [List.length_map] at this; exact this
 rw [ln49] at r46 ⊢
 refine ⟨_, rfl, ?_⟩
 have hge52 := ge_next hge33 (size_only O51) fm43 fr44
 have hf53 := SliceOf.pl (own_len r46 ln49)
 clear Z az; intro az Z
 refine L (r_mv Z rfl) Z rfl ?_; clear Z az; intro az Z
 refine L (r_ex Z rfl rfl) Z rfl ?_; clear Z az; intro az Z
 refine L (r_ex Z rfl rfl) Z rfl ?_; clear Z az; intro az Z
 refine L (r_as Z rfl) Z rfl ?_; clear Z az; intro az Z
 refine L (r_as Z rfl) Z rfl ?_; clear Z az; intro az Z
 refine k34 _ _ (wp_seq_k fun _ k54 => wp_region_lit ?_)
 refine L (r_mv Z rfl) Z rfl ?_; clear Z az; intro az Z
 have O56 : Only NoF w w36 := (Only.trans' (o_sg O51 o42 (Nat.le_refl _) (fun k h => hge33 k (.inl h))) o48)
 have G55 := Gr.k hG O56
 have T57 : (ST b3 g12 jg13 D3 2 (mkJ [encN n40a])) w36 F40 := ((st_good _ _ _ _ _ _).only h41 o48 (fun _ _ h => h))
 refine LC Z rfl rfl Tryz.call18 (write_1 (t := [98]) G55 T57 (fun k hk => Nat.le_trans (Nat.le_trans hG.1 (Nat.le_refl _)) (hge52 k (.inl hk))) si1 (SliceOf.nil_ _ _ _) (by unfold I64; omega) (by unfold I64; omega) (by unfold maxLen; decide) (by decide) zw2) rfl ?_
 rintro e w58 ⟨rfl, F59, h60, o61, fm62, fr63⟩; refine ⟨_, rfl, ?_⟩
 have hge64 := ge_next hge52 (size_only O56) fm62 fr63
 clear Z az; intro az Z
 refine L (r_as Z rfl) Z rfl ?_; clear Z az; intro az Z
 refine k54 _ _ (wp_seq_k fun _ k65 => wp_region_lit ?_)
 refine L (r_mv Z rfl) Z rfl ?_; clear Z az; intro az Z
 refine LC Z rfl rfl Tryz.call14 (crash_1 h60) rfl ?_
 rintro e w66 ⟨rfl, F67, h68, o69, fm70, fr71⟩; refine ⟨_, rfl, ?_⟩
 have O72 : Only NoF w w58 := (o_sg O56 o61 (Nat.le_refl _) (fun k h => hge52 k (.inl h)))
 have hge73 := ge_next hge64 (size_only O72) fm70 fr71
 clear Z az; intro az Z
 refine k65 _ _ (wp_seq_k fun _ k74 => wp_region_lit ?_)
 refine L (r_mv Z rfl) Z rfl ?_; clear Z az; intro az Z
 refine LC Z rfl rfl Tryz.call16 (so_start (os := some (g12, jg13, (mkJ [encN n40a, encN n40b]))) h68) rfl ?_
 rintro e w75 ⟨rfl, F76, h77, o78, fm79, fr80⟩; refine ⟨_, rfl, ?_⟩
 have O81 : Only NoF w w66 := (o_sg O72 o69 (Nat.le_refl _) (fun k h => hge64 k (.inl h)))
 have hge82 := ge_next hge73 (size_only O81) fm79 fr80
 clear Z az; intro az Z
 refine k74 _ _ (wp_seq_k fun _ k83 => wp_region_lit ?_)
 refine L (r_mv Z rfl) Z rfl ?_; clear Z az; intro az Z
 have O93 : Only NoF w w75 := (o_sg O81 o78 (Nat.le_refl _) (fun k h => hge73 k (.inl h)))
 have G92 := Gr.k hG O93
 refine LC Z rfl rfl Tryz.call8 (open_1 (os := (some (g12, jg13, (mkJ [encN n40a, encN n40b])))) (h0 := 2) G92 h77 (fun k hk => Nat.le_trans (Nat.le_trans hG.1 (Nat.le_refl _)) (hge82 k (.inl hk))) ze5) rfl ?_
 rintro e w86 ⟨g84, jg85, rfl, F87, h88, o89, fm90, fr91⟩; refine ⟨_, rfl, ?_⟩
 have hge94 := ge_next hge82 (size_only O93) fm90 fr91
 clear Z az; intro az Z
 refine L (r_mv Z rfl) Z rfl ?_; clear Z az; intro az Z
 refine L (r_ex Z rfl rfl) Z rfl ?_; clear Z az; intro az Z
 refine L (r_ex Z rfl rfl) Z rfl ?_; clear Z az; intro az Z
 refine L (r_as Z rfl) Z rfl ?_; clear Z az; intro az Z
 refine L (r_as Z rfl) Z rfl ?_; clear Z az; intro az Z
 refine k83 _ _ (wp_seq_k fun _ k95 => ?_)
 refine wp_seq_k fun _ k96 => wp_region_lit ?_
 refine L (r_mv Z rfl) Z rfl ?_; clear Z az; intro az Z
 refine L (r_eqP Tryz.underlying29 Z rfl rfl) Z rfl ?_; clear Z az; intro az Z
 refine L (r_mv Z rfl) Z rfl ?_; clear Z az; intro az Z
 refine LT Z rfl rfl (r_mv Z rfl) rfl ?_; clear Z az; intro az Z
 refine LT Z rfl rfl (r_neRI Z rfl rfl) rfl ?_; clear Z az; intro az Z
 refine L (r_pick Z rfl rfl rfl) Z rfl ?_; clear Z az; intro az Z
 refine L (r_mv Z rfl) Z rfl ?_; clear Z az; intro az Z
 refine LT Z rfl rfl (r_mv Z rfl) rfl ?_; clear Z az; intro az Z
 refine LT Z rfl rfl (r_neRI Z rfl rfl) rfl ?_; clear Z az; intro az Z
 refine L (r_pick Z rfl rfl rfl) Z rfl ?_; clear Z az; intro az Z
 refine L (r_mv Z rfl) Z rfl ?_; clear Z az; intro az Z
 refine LT Z rfl rfl (r_mv Z rfl) rfl ?_; clear Z az; intro az Z
 refine LT Z rfl rfl (r_neRI Z rfl rfl) rfl ?_; clear Z az; intro az Z
 refine L (r_pick Z rfl rfl rfl) Z rfl ?_; clear Z az; intro az Z
 refine L (r_mv Z rfl) Z rfl ?_; clear Z az; intro az Z
 refine LT Z rfl rfl (r_mv Z rfl) rfl ?_; clear Z az; intro az Z
 refine LT Z rfl rfl (r_neRI Z rfl rfl) rfl ?_; clear Z az; intro az Z
 refine L (r_pick Z rfl rfl rfl) Z rfl ?_; clear Z az; intro az Z
 refine L (r_mv Z rfl) Z rfl ?_; clear Z az; intro az Z
 refine LT Z rfl rfl (r_mv Z rfl) rfl ?_; clear Z az; intro az Z
 refine LT Z rfl rfl (r_lenL Tryz.underlying44 Z rfl) rfl ?_; clear Z az; intro az Z
 refine LT Z rfl rfl (r_neRI Z rfl rfl) rfl ?_; clear Z az; intro az Z
 refine L (r_pick Z rfl rfl rfl) Z rfl ?_; clear Z az; intro az Z
 refine L (r_mv Z rfl) Z rfl ?_; clear Z az; intro az Z
 refine LT Z rfl rfl (r_mv Z rfl) rfl ?_; clear Z az; intro az Z
 refine LCT Z rfl rfl rfl rfl Tryz.call23 (so_all h88 si1) rfl ?_
 rintro e w97 ⟨A99, c100, L101, rfl, hL102, r103, hN104, o98⟩
 have ln105 : L101.length = 1 := by have := congrArg List.length hL102; rw [List.length_map] at this; exact this
 rw [ln105]; refine ⟨_, rfl, ?_⟩
 clear Z az; intro az Z
 refine LT Z rfl rfl (r_lenL Tryz.underlying44 Z rfl) rfl ?_; clear Z az; intro az Z
 refine LT Z rfl rfl (r_neRI Z rfl rfl) rfl ?_; clear Z az; intro az Z
 refine L (r_pick Z rfl rfl rfl) Z rfl ?_; clear Z az; intro az Z
 refine k96 _ _ ?_
 refine br_false Z rfl ?_
 refine wp_skip ?_
 refine k95 _ _ (wp_seq_k fun _ k106 => wp_region_lit ?_)
 refine L (r_mv Z rfl) Z rfl ?_; clear Z az; intro az Z
 have O108 : Only NoF w w97 := (Only.trans' (o_sg O93 o89 (Nat.le_refl _) (fun k h => hge82 k (.inl h))) o98)
 have G107 := Gr.k hG O108
 have T109 : (ST b3 g84 jg85 D5 2 (mkJ [encN n40a])) w97 F87 := ((st_good _ _ _ _ _ _).only h88 o98 (fun _ _ h => h))
 refine LC Z rfl rfl Tryz.call18 (write_1 (t := [99]) G107 T109 (fun k hk => Nat.le_trans (Nat.le_trans hG.1 (Nat.le_refl _)) (hge94 k (.inl hk))) si1 (SliceOf.nil_ _ _ _) (by unfold I64; omega) (by unfold I64; omega) (by unfold maxLen; decide) (by decide) zw3) rfl ?_
 rintro e w110 ⟨rfl, F111, h112, o113, fm114, fr115⟩; refine ⟨_, rfl, ?_⟩
 have hge116 := ge_next hge94 (size_only O108) fm114 fr115
 clear Z az; intro az Z
 refine L (r_as Z rfl) Z rfl ?_; clear Z az; intro az Z
 refine k106 _ _ (wp_seq_k fun _ k117 => wp_region_lit ?_)
 refine L (r_mv Z rfl) Z rfl ?_; clear Z az; intro az Z
 have O134 : Only NoF w w110 := (o_sg O108 o113 (Nat.le_refl _) (fun k h => hge94 k (.inl h)))
 have G133 := Gr.k hG O134
 refine LC Z rfl rfl Tryz.call20 (tell_1 G133 h112 (fun k hk => Nat.le_trans (Nat.le_trans hG.1 (Nat.le_refl _)) (hge116 k (.inl hk))) si2 zs2 zl2) rfl ?_
 rintro e w119 ⟨w118, A120, c121, L122, ⟨F123, h124, o125, fm126, fr127⟩, rfl, hL128, r129, hN130, o131⟩
 rw [if_pos rfl] at hL128
 have ln132 : L122.length = 2 := by have := congrArg List.length hL128; rw [List.length_map] at this; exact this
 rw [ln132] at r129 ⊢
 refine ⟨_, rfl, ?_⟩
 have hge135 := ge_next hge116 (size_only O134) fm126 fr127
 have hf136 := SliceOf.pl (own_len r129 ln132)
 clear Z az; intro az Z
 refine L (r_mv Z rfl) Z rfl ?_; clear Z az; intro az Z
 refine L (r_ex Z rfl rfl) Z rfl ?_; clear Z az; intro az Z
 refine L (r_ex Z rfl rfl) Z rfl ?_; clear Z az; intro az Z
 refine L (r_as Z rfl) Z rfl ?_; clear Z az; intro az Z
 refine L (r_as Z rfl) Z rfl ?_; clear Z az; intro az Z
 refine k117 _ _ (wp_seq_k fun _ k137 => ?_)
 refine wp_seq_k fun _ k138 => wp_region_lit ?_
 refine L (r_mv Z rfl) Z rfl ?_; clear Z az; intro az Z
 refine L (r_neRI Z rfl rfl) Z rfl ?_; clear Z az; intro az Z
 refine L (r_mv Z rfl) Z rfl ?_; clear Z az; intro az Z
 refine LT Z rfl rfl (r_mv Z rfl) rfl ?_; clear Z az; intro az Z
 refine LT Z rfl rfl (r_neRI Z rfl rfl) rfl ?_; clear Z az; intro az Z
 refine L (r_pick Z rfl rfl rfl) Z rfl ?_; clear Z az; intro az Z
 refine L (r_mv Z rfl) Z rfl ?_; clear Z az; intro az Z
 refine LT Z rfl rfl (r_mv Z rfl) rfl ?_; clear Z az; intro az Z
 refine LT Z rfl rfl (r_lenL Tryz.underlying44 Z rfl) rfl ?_; clear Z az; intro az Z
 refine LT Z rfl rfl (r_neRI Z rfl rfl) rfl ?_; clear Z az; intro az Z
 refine L (r_pick Z rfl rfl rfl) Z rfl ?_; clear Z az; intro az Z
 refine k138 _ _ ?_
 refine br_false Z rfl ?_
 refine wp_skip ?_
 refine k137 _ _ (wp_seq_k fun _ k139 => wp_region_lit ?_)
 refine L (r_mv Z rfl) Z rfl ?_; clear Z az; intro az Z
 have hk140 : 1 < (L122).length := by omega
 obtain ⟨m141, hm142, ok143, hA144⟩ := Row.el KN0 hf136 hk140
 have E145 : ∀ W, Only NoF w119 W → CA W (eA A120 5 (1)) [.int .i64 (m141.h), .int .i64 (m141.n), .int .i64 (m141.d), .slice m141.A (m141.l.length) m141.c, strV (m141.s)] := Row.ce KN0 hf136 hm142 rfl
 refine L (r_ia (k := 1) (size := 5) Tryz.underlying44 Tryz.sizeOf51 Z rfl rfl rfl (by decide : 1 < 2) hA144) Z rfl ?_; clear Z az; intro az Z
 refine L (r_fa (m' := 4) Tryz.underlying51 rfl Tryz.sizeOf9 rfl Z rfl rfl) Z rfl ?_; clear Z az; intro az Z
 refine L (r_ld Tryz.isAgg9 Z rfl ((E145 _ (Only.refl NoF w119)) 4 _ rfl)) Z rfl ?_; clear Z az; intro az Z
 have hm146 : m141.s = [99] := by
  have h1 := congrArg (fun x => x[1]?) hL128
  simp only [List.getElem?_map, hm142] at h1
  exact congrArg NM.s (Option.some.inj h1)
 ·
  rw [hm146] at Z
  refine L (r_eqSh Z rfl rfl rfl) Z rfl ?_; clear Z az; intro az Z
  refine L (r_mv Z rfl) Z rfl ?_; clear Z az; intro az Z
  refine LT Z rfl rfl (r_mv Z rfl) rfl ?_; clear Z az; intro az Z
  refine LT Z rfl rfl (r_ia (k := 1) (size := 5) Tryz.underlying44 Tryz.sizeOf51 Z rfl rfl rfl (by decide : 1 < 2) hA144) rfl ?_; clear Z az; intro az Z
  refine LT Z rfl rfl (r_fa (m' := 1) Tryz.underlying51 rfl Tryz.sizeOf3 rfl Z rfl rfl) rfl ?_; clear Z az; intro az Z
  refine LT Z rfl rfl (r_ld Tryz.isAgg3 Z rfl ((E145 _ (Only.refl NoF w119)) 1 _ rfl)) rfl ?_; clear Z az; intro az Z
  have hm147 : m141.n = 1 := by
   have h1 := congrArg (fun x => x[1]?) hL128
   simp only [List.getElem?_map, hm142] at h1
   exact congrArg NM.n (Option.some.inj h1)
  ·
   rw [hm147] at Z
   refine LT Z rfl rfl (r_eqRI Z rfl rfl) rfl ?_; clear Z az; intro az Z
   refine L (r_pick Z rfl rfl rfl) Z rfl ?_; clear Z az; intro az Z
   refine L (r_mv Z rfl) Z rfl ?_; clear Z az; intro az Z
   refine LT Z rfl rfl (r_mv Z rfl) rfl ?_; clear Z az; intro az Z
   refine LT Z rfl rfl (r_ia (k := 1) (size := 5) Tryz.underlying44 Tryz.sizeOf51 Z rfl rfl rfl (by decide : 1 < 2) hA144) rfl ?_; clear Z az; intro az Z
   refine LT Z rfl rfl (r_fa (m' := 0) Tryz.underlying51 rfl Tryz.sizeOf3 rfl Z rfl rfl) rfl ?_; clear Z az; intro az Z
   refine LT Z rfl rfl (r_ld Tryz.isAgg3 Z rfl ((E145 _ (Only.refl NoF w119)) 0 _ rfl)) rfl ?_; clear Z az; intro az Z
   have hm148 : m141.h = 2 := by
    have h1 := congrArg (fun x => x[1]?) hL128
    simp only [List.getElem?_map, hm142] at h1
    exact congrArg NM.h (Option.some.inj h1)
   ·
    rw [hm148] at Z
    refine LT Z rfl rfl (r_eqRI Z rfl rfl) rfl ?_; clear Z az; intro az Z
    refine L (r_pick Z rfl rfl rfl) Z rfl ?_; clear Z az; intro az Z
    refine L (r_mv Z rfl) Z rfl ?_; clear Z az; intro az Z
    refine LT Z rfl rfl (r_mv Z rfl) rfl ?_; clear Z az; intro az Z
    have O150 : Only NoF w w119 := (Only.trans' (o_sg O134 o125 (Nat.le_refl _) (fun k h => hge116 k (.inl h))) o131)
    have G149 := Gr.k hG O150
    have T151 : (ST b3 g84 jg85 D7 2 (mkJ [encN n40a, encN n40c])) w119 F123 := ((st_good _ _ _ _ _ _).only h124 o131 (fun _ _ h => h))
    refine LCT Z rfl rfl rfl rfl Tryz.call18 (write_1 (t := [100]) G149 T151 (fun k hk => Nat.le_trans (Nat.le_trans hG.1 (Nat.le_refl _)) (hge135 k (.inl hk))) si2 (SliceOf.nil_ _ _ _) (by unfold I64; omega) (by unfold I64; omega) (by unfold maxLen; decide) (by decide) (zw4 _)) rfl ?_
    rintro e w152 ⟨rfl, F153, h154, o155, fm156, fr157⟩; refine ⟨_, rfl, ?_⟩
    have hge158 := ge_next hge135 (size_only O150) fm156 fr157
    clear Z az; intro az Z
    refine LT Z rfl rfl (r_eqRI Z rfl rfl) rfl ?_; clear Z az; intro az Z
    refine L (r_pick Z rfl rfl rfl) Z rfl ?_; clear Z az; intro az Z
    refine L (r_mv Z rfl) Z rfl ?_; clear Z az; intro az Z
    refine LT Z rfl rfl (r_mv Z rfl) rfl ?_; clear Z az; intro az Z
    refine LT Z rfl rfl (r_bd (v := .agg #[.int .i64 (2), .int .i64 (2)]) (build_Ref2 _ _) Z rfl) rfl ?_; clear Z az; intro az Z
    obtain ⟨A159, w160, hw, hA, r161, o162⟩ := Row.made (w := w152) KRef (e := 53) ([(⟨2, 2⟩ : RM)] : List RM) (by simp only [List.length_cons, List.length_nil]; unfold maxLen; omega)
    refine LT Z rfl rfl (r_bs (z := .agg #[.int .i64 (0), .int .i64 (0)]) (size := 2) (vs := [(0, .agg #[.int .i64 (2), .int .i64 (2)])]) (cs := List.flatMap KRef.cells [(⟨2, 2⟩ : RM)]) Tryz.underlying36 Tryz.sizeOf53 Tryz.zeroValue53 rfl (Fr.evalps Z rfl) (by kernel_rfl)) rfl ?_
    rw [← hw, ← hA]; clear Z az; intro az Z
    clear hw hA
    have ok163 : ∀ zq ∈ ([(⟨2, 2⟩ : RM)] : List RM), KRef.ok zq := by intro zq hx; simp only [List.mem_cons, List.not_mem_nil, or_false] at hx; rcases hx with rfl <;> first | exact ⟨by show I64 2; unfold I64; omega, by show I64 2; unfold I64; omega⟩
    have h164 := SliceOf.pl (Row.own KRef r161 ok163)
    have O166 : Only NoF w w160 := (Only.trans' (o_sg O150 o155 (Nat.le_refl _) (fun k h => hge135 k (.inl h))) o162)
    have G165 := Gr.k hG O166
    have T167 : (ST b3 g84 jg85 D7 2 (mkJ [encN n40a, encN n40c])) w160 F153 := ((st_good _ _ _ _ _ _).only h154 o162 (fun _ _ h => h))
    refine LCT Z rfl rfl rfl rfl Tryz.call18 (write_1 (t := [100]) G165 T167 (fun k hk => Nat.le_trans (Nat.le_trans hG.1 (Nat.le_refl _)) (hge158 k (.inl hk))) si2 h164 (by unfold I64; omega) (by unfold I64; omega) (by unfold maxLen; decide) (by decide) (zw5 _)) rfl ?_
    rintro e w168 ⟨rfl, F169, h170, o171, fm172, fr173⟩; refine ⟨_, rfl, ?_⟩
    have hge174 := ge_next hge158 (size_only O166) fm172 fr173
    clear Z az; intro az Z
    refine LT Z rfl rfl (r_eqRI Z rfl rfl) rfl ?_; clear Z az; intro az Z
    refine L (r_pick Z rfl rfl rfl) Z rfl ?_; clear Z az; intro az Z
    refine L (r_as Z rfl) Z rfl ?_; clear Z az; intro az Z
    refine k139 _ _ ?_
    refine wp_ret ?_
    show bodyPost _ _ _ .ret _ _
    refine ret_of (vs := [.bool (true)]) Z Tryz.results4 ⟨rfl, trivial⟩ ?_
    have O175 : Only NoF w w168 := (o_sg O166 o171 (Nat.le_refl _) (fun k h => hge158 k (.inl h)))
    exact ⟨rfl, O175⟩
theorem sane40_v {w : World} (hG : Gr w) : Calls Tryz.prog 4 ([] : List Value).toArray w (Fix (.bool true) w) := by
 obtain ⟨D1, D2, D3, D4, D5, D6, D7, h1, h2, h3, h4, h5, h6, h7, h8, h9, h10, h11, h12, h13, h14⟩ := sane_plain
 exact sane40_ hG h1 h2 h3 h4 h5 h6 h7 h8 h9 h10 h11 h12 h13 h14
end
end Go.Proofs.YtdegmpigkgkafaaGreatDoor
