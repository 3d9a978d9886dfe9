/-
  The journal: Open, Append, Sync, walked. Conditions: the listed variables; for Append a record of at most 900,000 bytes.
  The journal: Len, Get, All, walked. Condition: at most 100,000,000 records.
  The journal's calls on things in memory, as the laws make them. No condition beyond those that each names.
-/
import Derived.Test.YtdegmpigkgkafaaGreatDoorJA
import Derived.Test.YtdegmpigkgkafaaGreatDoorVq
import Derived.Laws.MakeOwn
import Derived.Test.YtdegmpigkgkafaaGreatDoorWU
namespace Go.Proofs.YtdegmpigkgkafaaGreatDoor
set_option maxHeartbeats 4000000
set_option maxRecDepth 20000
set_option linter.unusedVariables false
set_option linter.unusedSimpArgs false
set_option linter.unusedSectionVars false
section
open Go.RowKit
theorem build_Jrn (p : Option Addr) (f n : Int) (A : Option Addr) (k c : Nat) (w : World) : (Instr.build 110 #[(0, .pointer p), (1, .int .i64 f), (2, .slice A k c), (3, .int .i64 n)]).run Tryz.prog w = .ok (.agg #[.pointer p, .int .i64 f, .slice A k c, .int .i64 n, .bool false]) w := by kernel_rfl
theorem app_F {v v' : Value} {m k : Nat} (al : v'.ownBlock = v.ownBlock ∨ v'.ownBlock = some m) (h : ownF v' k) : ownF v k ∨ k = m := by
 unfold ownF at h ⊢
 rcases al with al | al
 · rw [al] at h; exact .inl h
 · rw [al] at h; injection h with h; exact .inr h.symm
theorem open_0t {D : Dsk} {f : Int} (h0 : (decide (f < 0) || decide (15 < f)) = true) : openJ D f = (D, 1, none) := by
 unfold openJ
 rw [if_pos (by simpa using h0)]
theorem open_0f1t {D : Dsk} {f : Int} (h0 : (decide (f < 0) || decide (15 < f)) = false) (h1 : (!decide ((D.sync f).2 = 0)) = true) : openJ D f = ((D.sync f).1, (D.sync f).2, none) := by
 unfold openJ
 rw [if_neg (by simpa using h0), if_pos (of_decide_eq_false (nt_t h1))]
theorem open_0f1f2t {D : Dsk} {f : Int} (h0 : (decide (f < 0) || decide (15 < f)) = false) (h1 : (!decide ((D.sync f).2 = 0)) = false) (h2 : (!decide (((D.sync f).1.read f 0 (((D.sync f).1.size f : Nat) : Int)).2 = 0)) = true) : openJ D f = ((D.sync f).1, ((D.sync f).1.read f 0 (((D.sync f).1.size f : Nat) : Int)).2, none) := by
 unfold openJ
 rw [if_neg (by simpa using h0), if_neg (fun h => h (of_decide_eq_true (nt_f h1))), if_pos (of_decide_eq_false (nt_t h2))]
theorem open_0f1f2f3t4t {D : Dsk} {f : Int} (h0 : (decide (f < 0) || decide (15 < f)) = false) (h1 : (!decide ((D.sync f).2 = 0)) = false) (h2 : (!decide (((D.sync f).1.read f 0 (((D.sync f).1.size f : Nat) : Int)).2 = 0)) = false) (h3 : decide ((((forms (recs ((D.sync f).1.read f 0 (((D.sync f).1.size f : Nat) : Int)).1)).length : Nat) : Int) < ((List.length (((D.sync f).1.read f 0 (((D.sync f).1.size f : Nat) : Int)).1) : Nat) : Int)) = true) (h4 : (!decide (((D.sync f).1.truncate f (((forms (recs ((D.sync f).1.read f 0 (((D.sync f).1.size f : Nat) : Int)).1)).length : Nat) : Int)).2 = 0)) = true) : openJ D f = (((D.sync f).1.truncate f (((forms (recs ((D.sync f).1.read f 0 (((D.sync f).1.size f : Nat) : Int)).1)).length : Nat) : Int)).1, ((D.sync f).1.truncate f (((forms (recs ((D.sync f).1.read f 0 (((D.sync f).1.size f : Nat) : Int)).1)).length : Nat) : Int)).2, none) := by
 unfold openJ
 rw [if_neg (by simpa using h0), if_neg (fun h => h (of_decide_eq_true (nt_f h1))), if_neg (fun h => h (of_decide_eq_true (nt_f h2))), if_pos (by have := of_decide_eq_true h3; omega), if_pos (of_decide_eq_false (nt_t h4))]
theorem open_0f1f2f3t4f {D : Dsk} {f : Int} (h0 : (decide (f < 0) || decide (15 < f)) = false) (h1 : (!decide ((D.sync f).2 = 0)) = false) (h2 : (!decide (((D.sync f).1.read f 0 (((D.sync f).1.size f : Nat) : Int)).2 = 0)) = false) (h3 : decide ((((forms (recs ((D.sync f).1.read f 0 (((D.sync f).1.size f : Nat) : Int)).1)).length : Nat) : Int) < ((List.length (((D.sync f).1.read f 0 (((D.sync f).1.size f : Nat) : Int)).1) : Nat) : Int)) = true) (h4 : (!decide (((D.sync f).1.truncate f (((forms (recs ((D.sync f).1.read f 0 (((D.sync f).1.size f : Nat) : Int)).1)).length : Nat) : Int)).2 = 0)) = false) : openJ D f = (((D.sync f).1.truncate f (((forms (recs ((D.sync f).1.read f 0 (((D.sync f).1.size f : Nat) : Int)).1)).length : Nat) : Int)).1, 0, some ⟨f, recs ((D.sync f).1.read f 0 (((D.sync f).1.size f : Nat) : Int)).1, (forms (recs ((D.sync f).1.read f 0 (((D.sync f).1.size f : Nat) : Int)).1)).length, false⟩) := by
 unfold openJ
 rw [if_neg (by simpa using h0), if_neg (fun h => h (of_decide_eq_true (nt_f h1))), if_neg (fun h => h (of_decide_eq_true (nt_f h2))), if_pos (by have := of_decide_eq_true h3; omega), if_neg (fun h => h (of_decide_eq_true (nt_f h4)))]
theorem open_0f1f2f3f {D : Dsk} {f : Int} (h0 : (decide (f < 0) || decide (15 < f)) = false) (h1 : (!decide ((D.sync f).2 = 0)) = false) (h2 : (!decide (((D.sync f).1.read f 0 (((D.sync f).1.size f : Nat) : Int)).2 = 0)) = false) (h3 : decide ((((forms (recs ((D.sync f).1.read f 0 (((D.sync f).1.size f : Nat) : Int)).1)).length : Nat) : Int) < ((List.length (((D.sync f).1.read f 0 (((D.sync f).1.size f : Nat) : Int)).1) : Nat) : Int)) = false) : openJ D f = ((D.sync f).1, 0, some ⟨f, recs ((D.sync f).1.read f 0 (((D.sync f).1.size f : Nat) : Int)).1, (forms (recs ((D.sync f).1.read f 0 (((D.sync f).1.size f : Nat) : Int)).1)).length, false⟩) := by
 unfold openJ
 rw [if_neg (by simpa using h0), if_neg (fun h => h (of_decide_eq_true (nt_f h1))), if_neg (fun h => h (of_decide_eq_true (nt_f h2))), if_neg (by have := of_decide_eq_false h3; omega)]
theorem Open_v_ {w : World} (hG : Gr w) {b : Nat} {D : Dsk} {F : Foot} (hd : DiskT b D w F) (h6 : ∀ k, F.m k → 6 ≤ k) {f : Int} : Calls Tryz.prog 25 [.pointer (some ⟨b, 0, none⟩), .int .i64 f].toArray w (OpenJTo b (openJ D f) w F) := by
 refine calls_start Tryz.func25 rfl rfl ?_
 intro az Z
 rw [Tryz.ntmps25] at Z
 refine wp_seq_k fun _ k1 => wp_region_lit ?_
 refine L (r_as Z rfl) Z rfl ?_; clear Z az; intro az Z
 refine L (r_as Z rfl) Z rfl ?_; clear Z az; intro az Z
 refine k1 _ _ (wp_seq_k fun _ k2 => ?_)
 refine wp_seq_k fun _ k3 => wp_region_lit ?_
 refine L (r_mv Z rfl) Z rfl ?_; clear Z az; intro az Z
 refine L (r_ltI Z rfl rfl) Z rfl ?_; clear Z az; intro az Z
 refine L (r_mv Z rfl) Z rfl ?_; clear Z az; intro az Z
 refine LG Z rfl rfl gd_f (fun hb => r_mv Z rfl) rfl ?_; clear Z az; intro az Z
 refine LG Z rfl rfl gd_f (fun hb => r_gtI Z (evg hb rfl) rfl) rfl ?_; clear Z az; intro az Z
 refine L (r_or Z rfl rfl rfl) Z rfl ?_; clear Z az; intro az Z
 refine k3 _ _ ?_
 refine br Z rfl (fun hc4 => ?_) (fun hc4 => ?_)
 ·
  have d5 := hc4
  refine wp_seq_k fun _ k6 => wp_region_lit ?_
  refine L (r_as Z rfl) Z rfl ?_; clear Z az; intro az Z
  refine L (r_as Z rfl) Z rfl ?_; clear Z az; intro az Z
  refine k6 _ _ ?_
  refine wp_ret ?_
  show bodyPost _ _ _ .ret _ _
  refine ret_of (vs := [.pointer none, .int .i64 (1)]) Z Tryz.results25 ⟨rfl, rfl, trivial⟩ ?_
  rw [open_0t hc4]
  exact .inl ⟨rfl, rfl, ⟨_, hd, (Only.refl _ w), (fun k hk => (.inl hk)), (fun k hk => (.inl hk))⟩⟩
 ·
  have p7 := of_decide_eq_false (or_f hc4).1
  have p8 := of_decide_eq_false (or_f hc4).2
  refine wp_skip ?_
  refine k2 _ _ (wp_seq_k fun _ k9 => ?_)
  refine wp_seq_k fun _ k10 => wp_region_lit ?_
  refine L (r_mv Z rfl) Z rfl ?_; clear Z az; intro az Z
  refine L (r_mv Z rfl) Z rfl ?_; clear Z az; intro az Z
  refine LC Z rfl rfl Tryz.call48 (dSync_c hd f) rfl ?_
  rintro e w11 ⟨rfl, F12, h13, o14, fm15, fr16⟩; refine ⟨_, rfl, ?_⟩
  clear Z az; intro az Z
  refine L (r_as Z rfl) Z rfl ?_; clear Z az; intro az Z
  refine k10 _ _ (wp_seq_k fun _ k17 => wp_region_lit ?_)
  refine L (r_mv Z rfl) Z rfl ?_; clear Z az; intro az Z
  refine L (r_neI Z rfl rfl) Z rfl ?_; clear Z az; intro az Z
  refine k17 _ _ ?_
  refine br Z rfl (fun hc18 => ?_) (fun hc18 => ?_)
  ·
   have p19 := of_decide_eq_false (nt_t hc18)
   refine wp_seq_k fun _ k20 => wp_region_lit ?_
   refine L (r_mv Z rfl) Z rfl ?_; clear Z az; intro az Z
   refine L (r_as Z rfl) Z rfl ?_; clear Z az; intro az Z
   refine L (r_as Z rfl) Z rfl ?_; clear Z az; intro az Z
   refine k20 _ _ ?_
   refine wp_ret ?_
   show bodyPost _ _ _ .ret _ _
   refine ret_of (vs := [.pointer none, .int .i64 ((D.sync f).2)]) Z Tryz.results25 ⟨rfl, rfl, trivial⟩ ?_
   rw [open_0f1t hc4 hc18]
   exact .inl ⟨rfl, rfl, ⟨_, h13, (Only.trans (Only.refl _ w) o14 (fun k h => (.inl h))), (fun k hk => ((fm15 _ hk).elim (fun h => (.inl h)) (fun h => .inr (Nat.le_trans (Nat.le_refl _) h)))), (fun k hk => ((fr16 _ hk).elim (fun h => (.inl h)) (fun h => .inr (Nat.le_trans (Nat.le_refl _) h))))⟩⟩
  ·
   have p21 := of_decide_eq_true (nt_f hc18)
   refine wp_skip ?_
   refine k9 _ _ (wp_seq_k fun _ k22 => wp_region_lit ?_)
   refine L (r_mv Z rfl) Z rfl ?_; clear Z az; intro az Z
   refine L (r_mv Z rfl) Z rfl ?_; clear Z az; intro az Z
   refine L (r_mv Z rfl) Z rfl ?_; clear Z az; intro az Z
   refine L (r_mv Z rfl) Z rfl ?_; clear Z az; intro az Z
   refine LCV (v := .int .i64 ((((D.sync f).1.size f : Nat) : Int))) Z rfl rfl Tryz.call50 (fix_w (dSize_c h13 f)) rfl fun w23 o24 => ?_; clear Z az; intro az Z
   have T25 : (DiskT b (D.sync f).1) w23 F12 := ((diskT_good b (D.sync f).1).only h13 o24 (fun _ _ h => h))
   refine LCV (v := .tuple #[strV (((D.sync f).1.read f 0 (((D.sync f).1.size f : Nat) : Int)).1), .int .i64 (((D.sync f).1.read f 0 (((D.sync f).1.size f : Nat) : Int)).2)]) Z rfl rfl Tryz.call49 (fix_w (dRead_c T25 f 0 _ (by unfold I64; omega) (by have := size_le T25 f; unfold I64; omega))) rfl fun w26 o27 => ?_; clear Z az; intro az Z
   refine L (r_mv Z rfl) Z rfl ?_; clear Z az; intro az Z
   refine L (r_ex Z rfl rfl) Z rfl ?_; clear Z az; intro az Z
   refine L (r_ex Z rfl rfl) Z rfl ?_; clear Z az; intro az Z
   refine L (r_as Z rfl) Z rfl ?_; clear Z az; intro az Z
   refine L (r_as Z rfl) Z rfl ?_; clear Z az; intro az Z
   refine k22 _ _ (wp_seq_k fun _ k28 => ?_)
   refine wp_seq_k fun _ k29 => wp_region_lit ?_
   refine L (r_mv Z rfl) Z rfl ?_; clear Z az; intro az Z
   refine L (r_neI Z rfl rfl) Z rfl ?_; clear Z az; intro az Z
   refine k29 _ _ ?_
   refine br Z rfl (fun hc30 => ?_) (fun hc30 => ?_)
   ·
    have p31 := of_decide_eq_false (nt_t hc30)
    refine wp_seq_k fun _ k32 => wp_region_lit ?_
    refine L (r_mv Z rfl) Z rfl ?_; clear Z az; intro az Z
    refine L (r_as Z rfl) Z rfl ?_; clear Z az; intro az Z
    refine L (r_as Z rfl) Z rfl ?_; clear Z az; intro az Z
    refine k32 _ _ ?_
    refine wp_ret ?_
    show bodyPost _ _ _ .ret _ _
    refine ret_of (vs := [.pointer none, .int .i64 (((D.sync f).1.read f 0 (((D.sync f).1.size f : Nat) : Int)).2)]) Z Tryz.results25 ⟨rfl, rfl, trivial⟩ ?_
    have T33 : (DiskT b (D.sync f).1) w26 F12 := ((diskT_good b (D.sync f).1).only T25 o27 (fun _ _ h => h))
    rw [open_0f1f2t hc4 hc18 hc30]
    exact .inl ⟨rfl, rfl, ⟨_, T33, (Only.trans (Only.trans (Only.trans (Only.refl _ w) o14 (fun k h => (.inl h))) o24 (fun _ h => h.elim)) o27 (fun _ h => h.elim)), (fun k hk => ((fm15 _ hk).elim (fun h => (.inl h)) (fun h => .inr (Nat.le_trans (Nat.le_refl _) h)))), (fun k hk => ((fr16 _ hk).elim (fun h => (.inl h)) (fun h => .inr (Nat.le_trans (Nat.le_refl _) h))))⟩⟩
   ·
    have p34 := of_decide_eq_true (nt_f hc30)
    refine wp_skip ?_
    refine k28 _ _ (wp_seq_k fun _ k35 => wp_region_lit ?_)
    refine L (r_mv Z rfl) Z rfl ?_; clear Z az; intro az Z
    have T41 : (DiskT b (D.sync f).1) w26 F12 := ((diskT_good b (D.sync f).1).only T25 o27 (fun _ _ h => h))
    have hrl := read_le T41 f 0 (((D.sync f).1.size f : Nat) : Int)
    have G42 := Gr.only hG (F := F.m) (Only.trans (Only.trans (Only.trans (Only.refl _ w) o14 (fun k h => (.inl h))) o24 (fun _ h => h.elim)) o27 (fun _ h => h.elim)) h6
    refine LC Z rfl rfl Tryz.call51 (read_v G42 (((D.sync f).1.read f 0 (((D.sync f).1.size f : Nat) : Int)).1) hrl) rfl ?_
    rintro e w36 ⟨A37, c38, rfl, r39, o40⟩; refine ⟨_, rfl, ?_⟩
    clear Z az; intro az Z
    refine L (r_mv Z rfl) Z rfl ?_; clear Z az; intro az Z
    refine L (r_ex Z rfl rfl) Z rfl ?_; clear Z az; intro az Z
    refine L (r_ex Z rfl rfl) Z rfl ?_; clear Z az; intro az Z
    refine L (r_as Z rfl) Z rfl ?_; clear Z az; intro az Z
    refine L (r_as Z rfl) Z rfl ?_; clear Z az; intro az Z
    refine k35 _ _ (wp_seq_k fun _ k43 => ?_)
    refine wp_seq_k fun _ k44 => wp_region_lit ?_
    refine L (r_mv Z rfl) Z rfl ?_; clear Z az; intro az Z
    refine L (r_mv Z rfl) Z rfl ?_; clear Z az; intro az Z
    refine L (r_lenS Tryz.underlying9 Z rfl) Z rfl ?_; clear Z az; intro az Z
    refine L (r_ltI Z rfl rfl) Z rfl ?_; clear Z az; intro az Z
    refine k44 _ _ ?_
    refine br Z rfl (fun hc45 => ?_) (fun hc45 => ?_)
    ·
     have p46 := of_decide_eq_true hc45
     refine wp_seq_k fun _ k47 => wp_region_lit ?_
     refine L (r_mv Z rfl) Z rfl ?_; clear Z az; intro az Z
     refine L (r_mv Z rfl) Z rfl ?_; clear Z az; intro az Z
     refine L (r_mv Z rfl) Z rfl ?_; clear Z az; intro az Z
     have T48 : (DiskT b (D.sync f).1) w36 F12 := ((diskT_good b (D.sync f).1).only T41 o40 (fun _ _ h => h))
     refine LC Z rfl rfl Tryz.call52 (dTruncate_c T48 f _ (by have := recs_le ((D.sync f).1.read f 0 (((D.sync f).1.size f : Nat) : Int)).1; unfold I64; omega)) rfl ?_
     rintro e w49 ⟨rfl, F50, h51, o52, fm53, fr54⟩; refine ⟨_, rfl, ?_⟩
     clear Z az; intro az Z
     refine L (r_as Z rfl) Z rfl ?_; clear Z az; intro az Z
     refine k47 _ _ (wp_seq_k fun _ k55 => wp_region_lit ?_)
     refine L (r_mv Z rfl) Z rfl ?_; clear Z az; intro az Z
     refine L (r_neI Z rfl rfl) Z rfl ?_; clear Z az; intro az Z
     refine k55 _ _ ?_
     refine br Z rfl (fun hc56 => ?_) (fun hc56 => ?_)
     ·
      have p57 := of_decide_eq_false (nt_t hc56)
      refine wp_seq_k fun _ k58 => wp_region_lit ?_
      refine L (r_mv Z rfl) Z rfl ?_; clear Z az; intro az Z
      refine L (r_as Z rfl) Z rfl ?_; clear Z az; intro az Z
      refine L (r_as Z rfl) Z rfl ?_; clear Z az; intro az Z
      refine k58 _ _ ?_
      refine wp_ret ?_
      show bodyPost _ _ _ .ret _ _
      refine ret_of (vs := [.pointer none, .int .i64 (((D.sync f).1.truncate f (((forms (recs ((D.sync f).1.read f 0 (((D.sync f).1.size f : Nat) : Int)).1)).length : Nat) : Int)).2)]) Z Tryz.results25 ⟨rfl, rfl, trivial⟩ ?_
      rw [open_0f1f2f3t4t hc4 hc18 hc30 hc45 hc56]
      have O59 := (Only.trans (Only.trans (Only.trans (Only.trans (Only.refl (fun _ => True) w) o14 (fun _ _ => .inl trivial)) o24 (fun _ _ => .inl trivial)) o27 (fun _ _ => .inl trivial)) o40 (fun _ _ => .inl trivial))
      exact .inl ⟨rfl, rfl, ⟨_, h51, (Only.trans (Only.trans (Only.trans (Only.trans (Only.trans (Only.refl _ w) o14 (fun k h => (.inl h))) o24 (fun _ h => h.elim)) o27 (fun _ h => h.elim)) o40 (fun _ h => h.elim)) o52 (fun k h => ((fm15 _ h).elim (fun h => (.inl h)) (fun h => .inr (Nat.le_trans (Nat.le_refl _) h))))), (fun k hk => ((fm53 _ hk).elim (fun h => ((fm15 _ h).elim (fun h => (.inl h)) (fun h => .inr (Nat.le_trans (Nat.le_refl _) h)))) (fun h => .inr (Nat.le_trans (size_only O59) h)))), (fun k hk => ((fr54 _ hk).elim (fun h => ((fr16 _ h).elim (fun h => (.inl h)) (fun h => .inr (Nat.le_trans (Nat.le_refl _) h)))) (fun h => .inr (Nat.le_trans (size_only O59) h))))⟩⟩
     ·
      have p60 := of_decide_eq_true (nt_f hc56)
      refine wp_skip ?_
      refine k43 _ _ (wp_seq_k fun _ k61 => wp_region_lit ?_)
      refine L (r_mv Z rfl) Z rfl ?_; clear Z az; intro az Z
      refine L (r_mv Z rfl) Z rfl ?_; clear Z az; intro az Z
      refine L (r_mv Z rfl) Z rfl ?_; clear Z az; intro az Z
      refine L (r_mv Z rfl) Z rfl ?_; clear Z az; intro az Z
      refine L (r_bd (v := .agg #[.pointer (some ⟨b, 0, none⟩), .int .i64 (f), .slice A37 ((recs ((D.sync f).1.read f 0 (((D.sync f).1.size f : Nat) : Int)).1).length) c38, .int .i64 ((((forms (recs ((D.sync f).1.read f 0 (((D.sync f).1.size f : Nat) : Int)).1)).length : Nat) : Int)), .bool (false)]) (build_Jrn _ _ _ _ _ _) Z rfl) Z rfl ?_; clear Z az; intro az Z
      refine LBox Z rfl rfl rfl ?_
      clear Z az; intro g62 w63 hg66 hl67 o64 B65 az Z
      refine L (r_as Z rfl) Z rfl ?_; clear Z az; intro az Z
      refine L (r_as Z rfl) Z rfl ?_; clear Z az; intro az Z
      refine k61 _ _ ?_
      refine wp_ret ?_
      show bodyPost _ _ _ .ret _ _
      refine ret_of (vs := [.pointer (some ((⟨g62, 0, none⟩ : Addr))), .int .i64 (0)]) Z Tryz.results25 ⟨rfl, rfl, trivial⟩ ?_
      have T68 : (DiskT b ((D.sync f).1.truncate f (((forms (recs ((D.sync f).1.read f 0 (((D.sync f).1.size f : Nat) : Int)).1)).length : Nat) : Int)).1) w63 F50 := ((diskT_good b ((D.sync f).1.truncate f (((forms (recs ((D.sync f).1.read f 0 (((D.sync f).1.size f : Nat) : Int)).1)).length : Nat) : Int)).1).only h51 o64 (fun _ _ h => h))
      rw [open_0f1f2f3t4f hc4 hc18 hc30 hc45 hc56]
      have O69 : Only NoF w11 w26 := (Only.trans' o24 o27)
      have r70 := (ow_k (ow_only r39 o52 (fun k hk hF => (fun k hk h => absurd ((diskT_good b (D.sync f).1).lt h13 _ h) (Nat.not_lt.2 (Nat.le_trans (size_only O69) (ownF_ge r39 k hk)))) k hk (.inl hF))) o64)
      have sp71 : ∀ k, ownF (.slice A37 ((recs ((D.sync f).1.read f 0 (((D.sync f).1.size f : Nat) : Int)).1).length) c38) k → ¬ Foot.all F50 k := sep_nexto (fun k hk h => absurd ((diskT_good b (D.sync f).1).lt h13 _ h) (Nat.not_lt.2 (Nat.le_trans (size_only O69) (ownF_ge r39 k hk)))) (fun k hk => Nat.lt_of_lt_of_le (ownF_lt r39 k hk) (Nat.le_refl _)) fm53 fr54
      have O72 := (Only.trans (Only.trans (Only.trans (Only.trans (Only.trans (Only.refl (fun _ => True) w) o14 (fun _ _ => .inl trivial)) o24 (fun _ _ => .inl trivial)) o27 (fun _ _ => .inl trivial)) o40 (fun _ _ => .inl trivial)) o52 (fun _ _ => .inl trivial))
      have O73 := (Only.trans (Only.trans (Only.trans (Only.refl (fun _ => True) w) o14 (fun _ _ => .inl trivial)) o24 (fun _ _ => .inl trivial)) o27 (fun _ _ => .inl trivial))
      have O74 := (Only.trans (Only.trans (Only.trans (Only.trans (Only.refl (fun _ => True) w) o14 (fun _ _ => .inl trivial)) o24 (fun _ _ => .inl trivial)) o27 (fun _ _ => .inl trivial)) o40 (fun _ _ => .inl trivial))
      refine .inr ⟨_, g62, rfl, rfl, ?_⟩
      refine ⟨_, JT.make (J := ⟨f, recs ((D.sync f).1.read f 0 (((D.sync f).1.size f : Nat) : Int)).1, (forms (recs ((D.sync f).1.read f 0 (((D.sync f).1.size f : Nat) : Int)).1)).length, false⟩) B65 r70 (recs_okS _) T68 (fun h => absurd ((diskT_good b ((D.sync f).1.truncate f (((forms (recs ((D.sync f).1.read f 0 (((D.sync f).1.size f : Nat) : Int)).1)).length : Nat) : Int)).1).lt h51 _ h) (Nat.not_lt.2 (Nat.le_trans (Nat.le_refl _) hg66))) sp71, ?_, ?_, ?_⟩
      · exact (Only.trans (Only.trans (Only.trans (Only.trans (Only.trans (Only.trans (Only.refl _ w) o14 (fun k h => (.inl h))) o24 (fun _ h => h.elim)) o27 (fun _ h => h.elim)) o40 (fun _ h => h.elim)) o52 (fun k h => ((fm15 _ h).elim (fun h => (.inl h)) (fun h => .inr (Nat.le_trans (Nat.le_refl _) h))))) o64 (fun _ h => h.elim))
      · intro k hk; rcases hk with (hk | hk) | hk
        · exact .inr (by rw [hk]; exact Nat.le_trans (size_only O72) hg66)
        · exact .inr (Nat.le_trans (size_only O73) (ownF_ge r70 k hk))
        · exact ((fm53 _ hk).elim (fun h => ((fm15 _ h).elim (fun h => (.inl h)) (fun h => .inr (Nat.le_trans (Nat.le_refl _) h)))) (fun h => .inr (Nat.le_trans (size_only O74) h)))
      · intro k hk; rcases hk with hk | hk
        · exact hk.elim
        · exact ((fr54 _ hk).elim (fun h => ((fr16 _ h).elim (fun h => (.inl h)) (fun h => .inr (Nat.le_trans (Nat.le_refl _) h)))) (fun h => .inr (Nat.le_trans (size_only O74) h)))
    ·
     have p75 := of_decide_eq_false hc45
     refine wp_skip ?_
     refine k43 _ _ (wp_seq_k fun _ k76 => wp_region_lit ?_)
     refine L (r_mv Z rfl) Z rfl ?_; clear Z az; intro az Z
     refine L (r_mv Z rfl) Z rfl ?_; clear Z az; intro az Z
     refine L (r_mv Z rfl) Z rfl ?_; clear Z az; intro az Z
     refine L (r_mv Z rfl) Z rfl ?_; clear Z az; intro az Z
     refine L (r_bd (v := .agg #[.pointer (some ⟨b, 0, none⟩), .int .i64 (f), .slice A37 ((recs ((D.sync f).1.read f 0 (((D.sync f).1.size f : Nat) : Int)).1).length) c38, .int .i64 ((((forms (recs ((D.sync f).1.read f 0 (((D.sync f).1.size f : Nat) : Int)).1)).length : Nat) : Int)), .bool (false)]) (build_Jrn _ _ _ _ _ _) Z rfl) Z rfl ?_; clear Z az; intro az Z
     refine LBox Z rfl rfl rfl ?_
     clear Z az; intro g77 w78 hg81 hl82 o79 B80 az Z
     refine L (r_as Z rfl) Z rfl ?_; clear Z az; intro az Z
     refine L (r_as Z rfl) Z rfl ?_; clear Z az; intro az Z
     refine k76 _ _ ?_
     refine wp_ret ?_
     show bodyPost _ _ _ .ret _ _
     refine ret_of (vs := [.pointer (some ((⟨g77, 0, none⟩ : Addr))), .int .i64 (0)]) Z Tryz.results25 ⟨rfl, rfl, trivial⟩ ?_
     have O83 : Only NoF w26 w78 := (Only.trans' o40 o79)
     have T84 : (DiskT b (D.sync f).1) w78 F12 := ((diskT_good b (D.sync f).1).only T41 O83 (fun _ _ h => h))
     rw [open_0f1f2f3f hc4 hc18 hc30 hc45]
     have r85 := (ow_k r39 o79)
     have O86 : Only NoF w11 w36 := (Only.trans' (Only.trans' o24 o27) o40)
     have O87 : Only NoF w11 w26 := (Only.trans' o24 o27)
     have O88 := (Only.trans (Only.trans (Only.trans (Only.trans (Only.refl (fun _ => True) w) o14 (fun _ _ => .inl trivial)) o24 (fun _ _ => .inl trivial)) o27 (fun _ _ => .inl trivial)) o40 (fun _ _ => .inl trivial))
     have O89 := (Only.trans (Only.trans (Only.trans (Only.refl (fun _ => True) w) o14 (fun _ _ => .inl trivial)) o24 (fun _ _ => .inl trivial)) o27 (fun _ _ => .inl trivial))
     refine .inr ⟨_, g77, rfl, rfl, ?_⟩
     refine ⟨_, JT.make (J := ⟨f, recs ((D.sync f).1.read f 0 (((D.sync f).1.size f : Nat) : Int)).1, (forms (recs ((D.sync f).1.read f 0 (((D.sync f).1.size f : Nat) : Int)).1)).length, false⟩) B80 r85 (recs_okS _) T84 (fun h => absurd ((diskT_good b (D.sync f).1).lt h13 _ h) (Nat.not_lt.2 (Nat.le_trans (size_only O86) hg81))) (fun k hk h => absurd ((diskT_good b (D.sync f).1).lt h13 _ h) (Nat.not_lt.2 (Nat.le_trans (size_only O87) (ownF_ge r39 k hk)))), ?_, ?_, ?_⟩
     · exact (Only.trans (Only.trans (Only.trans (Only.trans (Only.trans (Only.refl _ w) o14 (fun k h => (.inl h))) o24 (fun _ h => h.elim)) o27 (fun _ h => h.elim)) o40 (fun _ h => h.elim)) o79 (fun _ h => h.elim))
     · intro k hk; rcases hk with (hk | hk) | hk
       · exact .inr (by rw [hk]; exact Nat.le_trans (size_only O88) hg81)
       · exact .inr (Nat.le_trans (size_only O89) (ownF_ge r85 k hk))
       · exact ((fm15 _ hk).elim (fun h => (.inl h)) (fun h => .inr (Nat.le_trans (Nat.le_refl _) h)))
     · intro k hk; rcases hk with hk | hk
       · exact hk.elim
       · exact ((fr16 _ hk).elim (fun h => (.inl h)) (fun h => .inr (Nat.le_trans (Nat.le_refl _) h)))
section
variable {J : Jn} {D : Dsk} {t : Str}
theorem app_0t (h0 : J.bad = true) : J.append D t = (D, J, 7) := by unfold Jn.append; rw [if_pos h0]
theorem app_0f1t (h0 : J.bad = false) (h1 : decide ((20000 : Int) < ((List.length t : Nat) : Int)) = true) : J.append D t = (D, J, 3) := by unfold Jn.append; rw [if_neg (by rw [h0]; decide), if_pos (by have := of_decide_eq_true h1; omega)]
theorem app_0f1f2t (h0 : J.bad = false) (h1 : decide ((20000 : Int) < ((List.length t : Nat) : Int)) = false) (h2 : decide ((1048576 : Int) < (((J.n : Nat) : Int) + ((List.length (form t) : Nat) : Int))) = true) : J.append D t = (D, J, 6) := by
 unfold Jn.append; rw [if_neg (by rw [h0]; decide), if_neg (by have := of_decide_eq_false h1; omega), if_pos (by have := of_decide_eq_true h2; omega)]
theorem app_0f1f2f3t (h0 : J.bad = false) (h1 : decide ((20000 : Int) < ((List.length t : Nat) : Int)) = false) (h2 : decide ((1048576 : Int) < (((J.n : Nat) : Int) + ((List.length (form t) : Nat) : Int))) = false) (h3 : (!decide ((D.write J.f ((J.n : Nat) : Int) (form t)).2 = 0)) = true) : J.append D t = ((D.write J.f ((J.n : Nat) : Int) (form t)).1, { J with bad := true }, (D.write J.f ((J.n : Nat) : Int) (form t)).2) := by
 unfold Jn.append; rw [if_neg (by rw [h0]; decide), if_neg (by have := of_decide_eq_false h1; omega), if_neg (by have := of_decide_eq_false h2; omega), if_pos (of_decide_eq_false (nt_t h3))]
theorem app_0f1f2f3f (h0 : J.bad = false) (h1 : decide ((20000 : Int) < ((List.length t : Nat) : Int)) = false) (h2 : decide ((1048576 : Int) < (((J.n : Nat) : Int) + ((List.length (form t) : Nat) : Int))) = false) (h3 : (!decide ((D.write J.f ((J.n : Nat) : Int) (form t)).2 = 0)) = false) : J.append D t = ((D.write J.f ((J.n : Nat) : Int) (form t)).1, { J with l := J.l ++ [t], n := J.n + (form t).length }, 0) := by
 unfold Jn.append; rw [if_neg (by rw [h0]; decide), if_neg (by have := of_decide_eq_false h1; omega), if_neg (by have := of_decide_eq_false h2; omega), if_neg (fun h => h (of_decide_eq_true (nt_f h3)))]
theorem syn_0t (h0 : J.bad = true) : J.sync D = (D, J, 7) := by unfold Jn.sync; rw [if_pos h0]
theorem syn_0f (h0 : J.bad = false) : J.sync D = ((D.sync J.f).1, { J with bad := !decide ((D.sync J.f).2 = 0) }, (D.sync J.f).2) := by unfold Jn.sync; rw [if_neg (by rw [h0]; decide)]
end
theorem Append_v_ {w : World} (hG : Gr w) {b g : Nat} {D : Dsk} {J : Jn} {A : Option Addr} {c : Nat} {F : Foot} (hB : Blk w g 110 (jrnCells b J A c)) (rO : w.ownsRow 0 9 1 (.slice A J.l.length c) J.l.length (J.l.flatMap KStr.cells)) (okO : ∀ z ∈ J.l, KStr.ok z) (hd : DiskT b D w F) (s1 : ¬ F.all g) (s2 : ∀ k, ownF (.slice A J.l.length c) k → ¬ F.all k) (h6 : ∀ k, (fun k => (k = g ∨ ownF (.slice A J.l.length c) k) ∨ F.m k) k → 6 ≤ k) {t : Str} (ht : t.length ≤ 900000) (hn : J.n ≤ 100000000) (hll : J.l.length ≤ 100000000) : Calls Tryz.prog 39 [.pointer (some ⟨g, 0, none⟩), strV t].toArray w (TurnTo (.int .i64 (J.append D t).2.2) (JT b g (J.append D t).1 (J.append D t).2.1) w (⟨fun k => (k = g ∨ ownF (.slice A J.l.length c) k) ∨ F.m k, fun k => False ∨ F.r k⟩ : Foot)) := by
 have htk : KStr.ok t := by show t.length ≤ maxLen; unfold maxLen; omega
 have hfl := form_len (t := t) (by omega)
 refine calls_start Tryz.func39 rfl rfl ?_
 intro az Z
 rw [Tryz.ntmps39] at Z
 refine wp_seq_k fun _ k1 => wp_region_lit ?_
 refine L (r_as Z rfl) Z rfl ?_; clear Z az; intro az Z
 refine k1 _ _ (wp_seq_k fun _ k2 => wp_region_lit ?_)
 refine L (r_mv Z rfl) Z rfl ?_; clear Z az; intro az Z
 refine LCV (v := strV (form t)) Z rfl rfl Tryz.call70 (form_v hG t (by omega)) rfl fun w3 o4 => ?_; clear Z az; intro az Z
 refine L (r_as Z rfl) Z rfl ?_; clear Z az; intro az Z
 refine k2 _ _ (wp_seq_k fun _ k5 => ?_)
 refine wp_block ?_
 refine wp_seq_k fun _ k6 => wp_region_lit ?_
 refine L (r_mv Z rfl) Z rfl ?_; clear Z az; intro az Z
 refine L (r_nilP Z rfl) Z rfl ?_; clear Z az; intro az Z
 refine L (r_fa (m' := 4) Tryz.underlying110 rfl Tryz.sizeOf4 rfl Z rfl rfl) Z rfl ?_; clear Z az; intro az Z
 have B7 := (Blk.k hB o4)
 refine L (r_ld Tryz.isAgg4 Z rfl ((Blk.ca B7) 4 _ rfl)) Z rfl ?_; clear Z az; intro az Z
 refine L (r_as Z rfl) Z rfl ?_; clear Z az; intro az Z
 refine k6 _ _ ?_
 refine br Z rfl (fun hc8 => ?_) (fun hc8 => ?_)
 ·
  have q9 : J.bad = true := hc8
  refine wp_seq_k fun _ k10 => wp_region_lit ?_
  refine L (r_as Z rfl) Z rfl ?_; clear Z az; intro az Z
  refine k10 _ _ ?_
  refine wp_ret ?_
  show bodyPost _ _ _ .ret _ _
  refine ret_of (vs := [.int .i64 (7)]) Z Tryz.results39 ⟨rfl, trivial⟩ ?_
  rw [app_0t hc8]; refine ⟨rfl, ?_⟩
  have T11 : (DiskT b D) w3 F := ((diskT_good b D).only hd o4 (fun _ _ h => h))
  have r12 := (ow_k rO o4)
  refine ⟨_, JT.make (J := J) B7 r12 okO T11 s1 s2, ?_, ?_, ?_⟩
  · exact (Only.trans (Only.refl _ w) o4 (fun _ h => h.elim))
  · intro k hk; rcases hk with (hk | hk) | hk
    · exact .inl (.inl (.inl hk))
    · exact .inl (.inl (.inr hk))
    · exact ((.inl hk) : F.m k ∨ w.heap.size ≤ k).imp .inr id
  · intro k hk; rcases hk with hk | hk
    · exact hk.elim
    · exact ((.inl hk) : F.r k ∨ w.heap.size ≤ k).imp .inr id
 ·
  have q13 : J.bad = false := hc8
  refine wp_seq_k fun _ k14 => wp_region_lit ?_
  refine L (r_mv Z rfl) Z rfl ?_; clear Z az; intro az Z
  refine L (r_lenS Tryz.underlying9 Z rfl) Z rfl ?_; clear Z az; intro az Z
  refine L (r_gtI Z rfl rfl) Z rfl ?_; clear Z az; intro az Z
  refine L (r_as Z rfl) Z rfl ?_; clear Z az; intro az Z
  refine k14 _ _ ?_
  refine br Z rfl (fun hc15 => ?_) (fun hc15 => ?_)
  ·
   have p16 := of_decide_eq_true hc15
   refine wp_seq_k fun _ k17 => wp_region_lit ?_
   refine L (r_as Z rfl) Z rfl ?_; clear Z az; intro az Z
   refine k17 _ _ ?_
   refine wp_ret ?_
   show bodyPost _ _ _ .ret _ _
   refine ret_of (vs := [.int .i64 (3)]) Z Tryz.results39 ⟨rfl, trivial⟩ ?_
   rw [app_0f1t hc8 hc15]; refine ⟨rfl, ?_⟩
   have T18 : (DiskT b D) w3 F := ((diskT_good b D).only hd o4 (fun _ _ h => h))
   have r19 := (ow_k rO o4)
   refine ⟨_, JT.make (J := J) B7 r19 okO T18 s1 s2, ?_, ?_, ?_⟩
   · exact (Only.trans (Only.refl _ w) o4 (fun _ h => h.elim))
   · intro k hk; rcases hk with (hk | hk) | hk
     · exact .inl (.inl (.inl hk))
     · exact .inl (.inl (.inr hk))
     · exact ((.inl hk) : F.m k ∨ w.heap.size ≤ k).imp .inr id
   · intro k hk; rcases hk with hk | hk
     · exact hk.elim
     · exact ((.inl hk) : F.r k ∨ w.heap.size ≤ k).imp .inr id
  ·
   have p20 := of_decide_eq_false hc15
   refine wp_seq_k fun _ k21 => wp_region_lit ?_
   refine L (r_mv Z rfl) Z rfl ?_; clear Z az; intro az Z
   refine L (r_nilP Z rfl) Z rfl ?_; clear Z az; intro az Z
   refine L (r_fa (m' := 3) Tryz.underlying110 rfl Tryz.sizeOf3 rfl Z rfl rfl) Z rfl ?_; clear Z az; intro az Z
   refine L (r_ld Tryz.isAgg3 Z rfl ((Blk.ca B7) 3 _ rfl)) Z rfl ?_; clear Z az; intro az Z
   refine L (r_mv Z rfl) Z rfl ?_; clear Z az; intro az Z
   refine L (r_lenS Tryz.underlying9 Z rfl) Z rfl ?_; clear Z az; intro az Z
   have i22 : I64 ((((J.n : Nat) : Int) + ((List.length (form t) : Nat) : Int))) := by unfold I64; omega
   refine L (r_addI (r := (((J.n : Nat) : Int) + ((List.length (form t) : Nat) : Int))) Z rfl rfl rfl i22) Z rfl ?_; clear Z az; intro az Z
   refine L (r_gtI Z rfl rfl) Z rfl ?_; clear Z az; intro az Z
   refine L (r_as Z rfl) Z rfl ?_; clear Z az; intro az Z
   refine k21 _ _ ?_
   refine br Z rfl (fun hc23 => ?_) (fun hc23 => ?_)
   ·
    have p24 := of_decide_eq_true hc23
    refine wp_seq_k fun _ k25 => wp_region_lit ?_
    refine L (r_as Z rfl) Z rfl ?_; clear Z az; intro az Z
    refine k25 _ _ ?_
    refine wp_ret ?_
    show bodyPost _ _ _ .ret _ _
    refine ret_of (vs := [.int .i64 (6)]) Z Tryz.results39 ⟨rfl, trivial⟩ ?_
    rw [app_0f1f2t hc8 hc15 hc23]; refine ⟨rfl, ?_⟩
    have T26 : (DiskT b D) w3 F := ((diskT_good b D).only hd o4 (fun _ _ h => h))
    have r27 := (ow_k rO o4)
    refine ⟨_, JT.make (J := J) B7 r27 okO T26 s1 s2, ?_, ?_, ?_⟩
    · exact (Only.trans (Only.refl _ w) o4 (fun _ h => h.elim))
    · intro k hk; rcases hk with (hk | hk) | hk
      · exact .inl (.inl (.inl hk))
      · exact .inl (.inl (.inr hk))
      · exact ((.inl hk) : F.m k ∨ w.heap.size ≤ k).imp .inr id
    · intro k hk; rcases hk with hk | hk
      · exact hk.elim
      · exact ((.inl hk) : F.r k ∨ w.heap.size ≤ k).imp .inr id
   ·
    have p28 := of_decide_eq_false hc23
    refine wp_skip ?_
    refine k5 _ _ (wp_seq_k fun _ k29 => ?_)
    refine wp_seq_k fun _ k30 => ?_
    refine reg_p F.m 0 [13] (.rd 0 (.rd 1 (.rd 2 (.rd 3 (.rd 4 (.rd 5 (.rd 6 (.rd 7 (.rd 8 (.rd 9 (.rd 10 (.rd 11 (.rd 12 (.ex 13 (.rd 14 .nil))))))))))))))) (by kernel_rfl) (by kernel_rfl) (fun _ _ _ _ _ h => h) fun w31 o32 => ?_
    have B33 := (Blk.k B7 o32)
    refine Pl.MSP (b := false) (by kernel_rfl) (fun W oW => r_mv Z rfl) Z rfl rfl ?_; clear Z az; intro az Z
    refine Pl.MSP (b := false) (by kernel_rfl) (fun W oW => r_nilP Z rfl) Z rfl rfl ?_; clear Z az; intro az Z
    refine Pl.MSP (b := false) (by kernel_rfl) (fun W oW => r_fa (m' := 0) Tryz.underlying110 rfl Tryz.sizeOf25 rfl Z rfl rfl) Z rfl rfl ?_; clear Z az; intro az Z
    refine Pl.MSP (b := true) (by kernel_rfl) (fun W oW => r_ld Tryz.isAgg25 Z rfl ((Blk.ca (Blk.k B33 oW)) 0 _ rfl)) Z rfl rfl ?_; clear Z az; intro az Z
    refine Pl.MSP (b := false) (by kernel_rfl) (fun W oW => r_mv Z rfl) Z rfl rfl ?_; clear Z az; intro az Z
    refine Pl.MSP (b := false) (by kernel_rfl) (fun W oW => r_nilP Z rfl) Z rfl rfl ?_; clear Z az; intro az Z
    refine Pl.MSP (b := false) (by kernel_rfl) (fun W oW => r_fa (m' := 1) Tryz.underlying110 rfl Tryz.sizeOf3 rfl Z rfl rfl) Z rfl rfl ?_; clear Z az; intro az Z
    refine Pl.MSP (b := true) (by kernel_rfl) (fun W oW => r_ld Tryz.isAgg3 Z rfl ((Blk.ca (Blk.k B33 oW)) 1 _ rfl)) Z rfl rfl ?_; clear Z az; intro az Z
    refine Pl.MSP (b := false) (by kernel_rfl) (fun W oW => r_mv Z rfl) Z rfl rfl ?_; clear Z az; intro az Z
    refine Pl.MSP (b := false) (by kernel_rfl) (fun W oW => r_nilP Z rfl) Z rfl rfl ?_; clear Z az; intro az Z
    refine Pl.MSP (b := false) (by kernel_rfl) (fun W oW => r_fa (m' := 3) Tryz.underlying110 rfl Tryz.sizeOf3 rfl Z rfl rfl) Z rfl rfl ?_; clear Z az; intro az Z
    refine Pl.MSP (b := true) (by kernel_rfl) (fun W oW => r_ld Tryz.isAgg3 Z rfl ((Blk.ca (Blk.k B33 oW)) 3 _ rfl)) Z rfl rfl ?_; clear Z az; intro az Z
    refine Pl.MSP (b := true) (by kernel_rfl) (fun W oW => r_mv Z rfl) Z rfl rfl ?_; clear Z az; intro az Z
    have O34 : Only NoF w w31 := (Only.trans' o4 o32)
    have T35 : (DiskT b D) w31 F := ((diskT_good b D).only hd O34 (fun _ _ h => h))
    refine Pl.MSC Z rfl rfl rfl Tryz.call71 (dWrite_c T35 J.f _ (form t) (by unfold I64; omega) (by omega)) rfl ?_
    rintro e w36 ⟨rfl, F37, h38, o39, fm40, fr41⟩
    refine ⟨_, rfl, ⟨fun h => absurd h (by decide), (Only.trans (Only.refl F.m w31) o39 (fun _ h => .inl h))⟩, ?_⟩
    clear Z az; intro az Z
    refine Pl.MSP (b := false) (by kernel_rfl) (fun W oW => r_as Z rfl) Z rfl rfl ?_; clear Z az; intro az Z
    refine wpPl_nil ?_
    refine k30 _ _ (wp_seq_k fun _ k42 => wp_region_lit ?_)
    refine L (r_mv Z rfl) Z rfl ?_; clear Z az; intro az Z
    refine L (r_neI Z rfl rfl) Z rfl ?_; clear Z az; intro az Z
    refine k42 _ _ ?_
    refine br Z rfl (fun hc43 => ?_) (fun hc43 => ?_)
    ·
     have p44 := of_decide_eq_false (nt_t hc43)
     refine wp_seq_k fun _ k45 => wp_region_lit ?_
     refine L (r_mv Z rfl) Z rfl ?_; clear Z az; intro az Z
     refine L (r_nilP Z rfl) Z rfl ?_; clear Z az; intro az Z
     refine L (r_fa (m' := 4) Tryz.underlying110 rfl Tryz.sizeOf4 rfl Z rfl rfl) Z rfl ?_; clear Z az; intro az Z
     have B46 := (Blk.only B33 o39 (fun h => s1 (.inl h)))
     refine LSt (cs' := [.pointer (some ⟨b, 0, none⟩), .int .i64 (J.f), .slice A (J.l.length) c, .int .i64 (((J.n : Nat) : Int)), .bool (true)]) Tryz.sizeOf4 Z rfl rfl rfl rfl rfl ⟨rfl, trivial⟩ B46 rfl rfl fun w47 s48 B49 => ?_
     refine k45 _ _ (wp_seq_k fun _ k50 => wp_region_lit ?_)
     refine L (r_mv Z rfl) Z rfl ?_; clear Z az; intro az Z
     refine L (r_as Z rfl) Z rfl ?_; clear Z az; intro az Z
     refine k50 _ _ ?_
     refine wp_ret ?_
     show bodyPost _ _ _ .ret _ _
     refine ret_of (vs := [.int .i64 ((D.write J.f ((J.n : Nat) : Int) (form t)).2)]) Z Tryz.results39 ⟨rfl, trivial⟩ ?_
     rw [app_0f1f2f3t hc8 hc15 hc23 hc43]; refine ⟨rfl, ?_⟩
     have sp51 : ¬ Foot.all F37 g := sep_next s1 (Nat.lt_of_lt_of_le (Blk.lt hB) (size_only O34)) fm40 fr41
     have T52 : (DiskT b (D.write J.f ((J.n : Nat) : Int) (form t)).1) w47 F37 := ((diskT_good b (D.write J.f ((J.n : Nat) : Int) (form t)).1).only h38 s48 (fun k hk (e : k = g) => sp51 (by rw [← e]; exact hk)))
     have r53 := (ow_only (ow_only (ow_k (ow_k rO o4) o32) o39 (fun k hk hF => s2 k hk (.inl hF))) s48 (fun k hk hF => ow_nb (ow_only (ow_k (ow_k rO o4) o32) o39 (fun k hk hF => s2 k hk (.inl hF))) B46 (by decide) (by rw [show k = g from hF] at hk; exact hk)))
     have sp54 : ∀ k, ownF (.slice A (J.l.length) c) k → ¬ Foot.all F37 k := sep_nexto s2 (fun k hk => Nat.lt_of_lt_of_le (ownF_lt rO k hk) (size_only O34)) fm40 fr41
     refine ⟨_, JT.make (J := { J with bad := true }) B49 r53 okO T52 sp51 sp54, ?_, ?_, ?_⟩
     · exact (Only.trans (Only.trans (Only.trans (Only.trans (Only.refl _ w) o4 (fun _ h => h.elim)) o32 (fun _ h => h.elim)) o39 (fun k h => (.inl (.inr h)))) s48 (fun k h => .inl (.inl (.inl h))))
     · intro k hk; rcases hk with (hk | hk) | hk
       · exact .inl (.inl (.inl hk))
       · exact .inl (.inl (.inr hk))
       · exact (((fm40 _ hk).elim (fun h => (.inl h)) (fun h => .inr (Nat.le_trans (size_only O34) h))) : F.m k ∨ w.heap.size ≤ k).imp .inr id
     · intro k hk; rcases hk with hk | hk
       · exact hk.elim
       · exact (((fr41 _ hk).elim (fun h => (.inl h)) (fun h => .inr (Nat.le_trans (size_only O34) h))) : F.r k ∨ w.heap.size ≤ k).imp .inr id
    ·
     have p55 := of_decide_eq_true (nt_f hc43)
     refine wp_skip ?_
     refine k29 _ _ (wp_seq_k fun _ k56 => ?_)
     refine reg_q2 (ownF (.slice A (J.l.length) c)) (orF (ownF (.slice A (J.l.length) c)) (oneF g)) 1 2 [7, 8, 18, 21] (.rd 0 (.rd 1 (.rd 2 (.rd 3 (.rd 4 (.rd 5 (.rd 6 (.rd 9 (.rd 10 (.rd 11 (.rd 12 (.rd 13 (.rd 14 (.rd 15 (.ex 7 (.ex 8 (.rd 16 (.rd 17 (.ex 18 (.rd 19 (.rd 20 (.ex 21 .nil)))))))))))))))))))))) (by kernel_rfl) (by kernel_rfl) (fun _ _ _ _ _ h => h) fun w57 o58 => ?_
     have B59 := (Blk.k (Blk.only B33 o39 (fun h => s1 (.inl h))) o58)
     refine Pq.MSP (b := 1) (by kernel_rfl) (fun W oW => r_mv Z rfl) Z rfl rfl ?_; clear Z az; intro az Z
     refine Pq.MSP (b := 2) (by kernel_rfl) (fun W oW => r_mv Z rfl) Z rfl rfl ?_; clear Z az; intro az Z
     refine Pq.MSP (b := 1) (by kernel_rfl) (fun W oW => r_mv Z rfl) Z rfl rfl ?_; clear Z az; intro az Z
     refine Pq.MSP (b := 1) (by kernel_rfl) (fun W oW => r_nilP Z rfl) Z rfl rfl ?_; clear Z az; intro az Z
     refine Pq.MSP (b := 1) (by kernel_rfl) (fun W oW => r_fa (m' := 2) Tryz.underlying110 rfl Tryz.sizeOf68 rfl Z rfl rfl) Z rfl rfl ?_; clear Z az; intro az Z
     refine Pq.MSP (b := 0) (by kernel_rfl) (fun W oW => r_ld Tryz.isAgg68 Z rfl ((Blk.ca (Blk.k B59 oW)) 2 _ rfl)) Z rfl rfl ?_; clear Z az; intro az Z
     refine Pq.MSP (b := 0) (by kernel_rfl) (fun W oW => r_mv Z rfl) Z rfl rfl ?_; clear Z az; intro az Z
     refine Pq.MSP (b := 2) (by kernel_rfl) (fun W oW => r_mv Z rfl) Z rfl rfl ?_; clear Z az; intro az Z
     refine Pq.MSP (b := 2) (by kernel_rfl) (fun W oW => r_nilP Z rfl) Z rfl rfl ?_; clear Z az; intro az Z
     refine Pq.MSP (b := 2) (by kernel_rfl) (fun W oW => r_fa (m' := 3) Tryz.underlying110 rfl Tryz.sizeOf3 rfl Z rfl rfl) Z rfl rfl ?_; clear Z az; intro az Z
     have r60 := (ow_k (ow_only (ow_k (ow_k rO o4) o32) o39 (fun k hk hF => s2 k hk (.inl hF))) o58)
     refine Pq.MSP (b := 1) (by kernel_rfl) (fun W oW => r_ld Tryz.isAgg3 Z rfl ((Blk.ca (Blk.only B59 oW (ow_nb r60 B59 (by decide)))) 3 _ rfl)) Z rfl rfl ?_; clear Z az; intro az Z
     refine Pq.MSP (b := 2) (by kernel_rfl) (fun W oW => r_mv Z rfl) Z rfl rfl ?_; clear Z az; intro az Z
     refine Pq.MSP (b := 2) (by kernel_rfl) (fun W oW => r_lenS Tryz.underlying9 Z rfl) Z rfl rfl ?_; clear Z az; intro az Z
     have i61 : I64 ((((J.n : Nat) : Int) + ((List.length (form t) : Nat) : Int))) := by unfold I64; omega
     refine Pq.MSP (b := 2) (by kernel_rfl) (fun W oW => r_addI (r := (((J.n : Nat) : Int) + ((List.length (form t) : Nat) : Int))) Z rfl rfl rfl i61) Z rfl rfl ?_; clear Z az; intro az Z
     obtain ⟨A62, w63, hw, hA, r64, o65⟩ := Row.made (w := w57) KStr (e := 9) ([t] : List Str) (by simp only [List.length_cons, List.length_nil]; unfold maxLen; omega)
     refine Pq.MD (r_bs (z := strV ([])) (size := 1) (vs := [(0, strV (t))]) (cs := List.flatMap KStr.cells [t]) Tryz.underlying68 Tryz.sizeOf9 Tryz.zeroValue9 rfl (Fr.evalps Z rfl) (by kernel_rfl)) Z rfl rfl ?_ ?_
     · rw [← hw]; exact ⟨(fun _ => o65), (fun _ => (Only.trans (Only.refl (ownF (.slice A (J.l.length) c)) w57) o65 (fun _ h => h.elim))), (Only.trans (Only.refl (orF (ownF (.slice A (J.l.length) c)) (oneF g)) w57) o65 (fun _ h => h.elim))⟩
     rw [← hw, ← hA]; clear Z az; intro az Z
     clear hw hA
     have ok66 : ∀ zq ∈ ([t] : List Str), KStr.ok zq := by intro zq hx; simp only [List.mem_cons, List.not_mem_nil, or_false] at hx; rcases hx with rfl <;> first | exact htk
     have r67 := (ow_k r60 o65)
     have h68 := Row.own KStr r64 ok66
     have h69 := SliceOf.pl h68
     have hb77 : (List.length (J.l) + List.length ([t])) * 16 ≤ 140737488355328 := by (simp only [List.length_cons, List.length_nil]; omega)
     obtain ⟨A70, c71, w72, hr73, r74, o75, al76⟩ := Row.app (P := Tryz.prog) (l := J.l) (l2 := [t]) KStr elemStr r67 h69 hb77 (by unfold maxLen; omega) (Nat.zero_le _)
     refine Pq.MD (r_app hr73 Z rfl rfl) Z rfl rfl ?_ ?_
     · exact ⟨(fun h => absurd h (by decide)), (fun _ => (Only.trans (Only.trans (Only.refl (ownF (.slice A (J.l.length) c)) w57) o65 (fun _ h => h.elim)) o75 (fun _ h => .inl h))), (Only.trans (Only.trans (Only.refl (orF (ownF (.slice A (J.l.length) c)) (oneF g)) w57) o65 (fun _ h => h.elim)) o75 (fun _ h => .inl (.inl h)))⟩
     clear Z az; intro az Z
     have ok78 : ∀ zq ∈ (J.l ++ [t]), KStr.ok zq := (fun x hx => (List.mem_append.1 hx).elim (okO x) ((Row.oks KStr h69) x))
     have h79 := Row.own KStr r74 ok78
     refine Pq.MSP (b := 2) (by kernel_rfl) (fun W oW => r_nilP Z rfl) Z rfl rfl ?_; clear Z az; intro az Z
     refine Pq.MSP (b := 1) (by kernel_rfl) (fun W oW => r_fa (m' := 2) Tryz.underlying110 rfl Tryz.sizeOf68 rfl Z rfl rfl) Z rfl rfl ?_; clear Z az; intro az Z
     have B80 := (Blk.only (Blk.k B59 o65) o75 (ow_nb r67 (Blk.k B59 o65) (by decide)))
     refine Pq.MSS (cs' := [.pointer (some ⟨b, 0, none⟩), .int .i64 (J.f), .slice A70 (((J.l ++ [t])).length) c71, .int .i64 (((J.n : Nat) : Int)), .bool (J.bad)]) Tryz.sizeOf68 Z rfl rfl rfl rfl rfl rfl ⟨rfl, trivial⟩ B80 rfl rfl fun w81 s82 B83 => ?_
     refine ⟨⟨(fun h => absurd h (by decide)), (fun h => absurd h (by decide)), (Only.trans (Only.trans (Only.trans (Only.refl (orF (ownF (.slice A (J.l.length) c)) (oneF g)) w57) o65 (fun _ h => h.elim)) o75 (fun _ h => .inl (.inl h))) s82 (fun _ h => .inl (.inr h)))⟩, ?_⟩
     refine Pq.MSP (b := 2) (by kernel_rfl) (fun W oW => r_nilP Z rfl) Z rfl rfl ?_; clear Z az; intro az Z
     refine Pq.MSP (b := 2) (by kernel_rfl) (fun W oW => r_fa (m' := 3) Tryz.underlying110 rfl Tryz.sizeOf3 rfl Z rfl rfl) Z rfl rfl ?_; clear Z az; intro az Z
     refine Pq.MSS (cs' := [.pointer (some ⟨b, 0, none⟩), .int .i64 (J.f), .slice A70 (((J.l ++ [t])).length) c71, .int .i64 ((((J.n : Nat) : Int) + ((List.length (form t) : Nat) : Int))), .bool (J.bad)]) Tryz.sizeOf3 Z rfl rfl rfl rfl rfl rfl ⟨rfl, trivial⟩ B83 rfl rfl fun w84 s85 B86 => ?_
     refine ⟨⟨(fun h => absurd h (by decide)), (fun h => absurd h (by decide)), (Only.trans (Only.trans (Only.trans (Only.trans (Only.refl (orF (ownF (.slice A (J.l.length) c)) (oneF g)) w57) o65 (fun _ h => h.elim)) o75 (fun _ h => .inl (.inl h))) s82 (fun _ h => .inl (.inr h))) s85 (fun _ h => .inl (.inr h)))⟩, ?_⟩
     refine wpPl_nil ?_
     refine k56 _ _ (wp_seq_k fun _ k87 => wp_region_lit ?_)
     refine L (r_as Z rfl) Z rfl ?_; clear Z az; intro az Z
     refine k87 _ _ ?_
     refine wp_ret ?_
     show bodyPost _ _ _ .ret _ _
     refine ret_of (vs := [.int .i64 (0)]) Z Tryz.results39 ⟨rfl, trivial⟩ ?_
     rw [app_0f1f2f3f hc8 hc15 hc23 hc43]; refine ⟨rfl, ?_⟩
     have O88 : Only NoF w36 w63 := (Only.trans' o58 o65)
     have sp89 : ∀ k, ownF (.slice A (J.l.length) c) k → ¬ Foot.all F37 k := sep_nexto s2 (fun k hk => Nat.lt_of_lt_of_le (ownF_lt rO k hk) (size_only O34)) fm40 fr41
     have sp90 : ¬ Foot.all F37 g := sep_next s1 (Nat.lt_of_lt_of_le (Blk.lt hB) (size_only O34)) fm40 fr41
     have T91 : (DiskT b (D.write J.f ((J.n : Nat) : Int) (form t)).1) w84 F37 := ((diskT_good b (D.write J.f ((J.n : Nat) : Int) (form t)).1).only ((diskT_good b (D.write J.f ((J.n : Nat) : Int) (form t)).1).only ((diskT_good b (D.write J.f ((J.n : Nat) : Int) (form t)).1).only ((diskT_good b (D.write J.f ((J.n : Nat) : Int) (form t)).1).only h38 O88 (fun _ _ h => h)) o75 (fun k hk e => sp89 k e hk)) s82 (fun k hk (e : k = g) => sp90 (by rw [← e]; exact hk))) s85 (fun k hk (e : k = g) => sp90 (by rw [← e]; exact hk)))
     have r92 := (ow_only (ow_only r74 s82 (fun k hk hF => ow_nb r74 B80 (by decide) (by rw [show k = g from hF] at hk; exact hk))) s85 (fun k hk hF => ow_nb (ow_only r74 s82 (fun k hk hF => ow_nb r74 B80 (by decide) (by rw [show k = g from hF] at hk; exact hk))) B83 (by decide) (by rw [show k = g from hF] at hk; exact hk)))
     have sp93 : ∀ k, ownF (.slice A70 (((J.l ++ [t])).length) c71) k → ¬ Foot.all F37 k := sep_app al76 sp89 (fun k h => Nat.lt_of_lt_of_le ((diskT_good b (D.write J.f ((J.n : Nat) : Int) (form t)).1).lt h38 _ h) (size_only O88))
     have O94 := (Only.trans (Only.trans (Only.trans (Only.trans (Only.trans (Only.refl (fun _ => True) w) o4 (fun _ _ => .inl trivial)) o32 (fun _ _ => .inl trivial)) o39 (fun _ _ => .inl trivial)) o58 (fun _ _ => .inl trivial)) o65 (fun _ _ => .inl trivial))
     refine ⟨_, JT.make (J := { J with l := J.l ++ [t], n := J.n + (form t).length }) B86 r92 ok78 T91 sp90 sp93, ?_, ?_, ?_⟩
     · exact (Only.trans (Only.trans (Only.trans (Only.trans (Only.trans (Only.trans (Only.trans (Only.trans (Only.refl _ w) o4 (fun _ h => h.elim)) o32 (fun _ h => h.elim)) o39 (fun k h => (.inl (.inr h)))) o58 (fun _ h => h.elim)) o65 (fun _ h => h.elim)) o75 (fun k h => .inl (.inl (.inr h)))) s82 (fun k h => .inl (.inl (.inl h)))) s85 (fun k h => .inl (.inl (.inl h))))
     · intro k hk; rcases hk with (hk | hk) | hk
       · exact .inl (.inl (.inl hk))
       · exact (app_F al76 hk).elim (fun hk => .inl (.inl (.inr hk))) (fun hk => .inr (by rw [hk]; exact (size_only O94)))
       · exact (((fm40 _ hk).elim (fun h => (.inl h)) (fun h => .inr (Nat.le_trans (size_only O34) h))) : F.m k ∨ w.heap.size ≤ k).imp .inr id
     · intro k hk; rcases hk with hk | hk
       · exact hk.elim
       · exact (((fr41 _ hk).elim (fun h => (.inl h)) (fun h => .inr (Nat.le_trans (size_only O34) h))) : F.r k ∨ w.heap.size ≤ k).imp .inr id
theorem Sync_v_ {w : World} (hG : Gr w) {b g : Nat} {D : Dsk} {J : Jn} {A : Option Addr} {c : Nat} {F : Foot} (hB : Blk w g 110 (jrnCells b J A c)) (rO : w.ownsRow 0 9 1 (.slice A J.l.length c) J.l.length (J.l.flatMap KStr.cells)) (okO : ∀ z ∈ J.l, KStr.ok z) (hd : DiskT b D w F) (s1 : ¬ F.all g) (s2 : ∀ k, ownF (.slice A J.l.length c) k → ¬ F.all k) (h6 : ∀ k, (fun k => (k = g ∨ ownF (.slice A J.l.length c) k) ∨ F.m k) k → 6 ≤ k) : Calls Tryz.prog 43 [.pointer (some ⟨g, 0, none⟩)].toArray w (TurnTo (.int .i64 (J.sync D).2.2) (JT b g (J.sync D).1 (J.sync D).2.1) w (⟨fun k => (k = g ∨ ownF (.slice A J.l.length c) k) ∨ F.m k, fun k => False ∨ F.r k⟩ : Foot)) := by
 refine calls_start Tryz.func43 rfl rfl ?_
 intro az Z
 rw [Tryz.ntmps43] at Z
 refine wp_seq_k fun _ k1 => wp_region_lit ?_
 refine L (r_as Z rfl) Z rfl ?_; clear Z az; intro az Z
 refine k1 _ _ (wp_seq_k fun _ k2 => ?_)
 refine wp_seq_k fun _ k3 => wp_region_lit ?_
 refine L (r_mv Z rfl) Z rfl ?_; clear Z az; intro az Z
 refine L (r_nilP Z rfl) Z rfl ?_; clear Z az; intro az Z
 refine L (r_fa (m' := 4) Tryz.underlying110 rfl Tryz.sizeOf4 rfl Z rfl rfl) Z rfl ?_; clear Z az; intro az Z
 refine L (r_ld Tryz.isAgg4 Z rfl ((Blk.ca hB) 4 _ rfl)) Z rfl ?_; clear Z az; intro az Z
 refine k3 _ _ ?_
 refine br Z rfl (fun hc4 => ?_) (fun hc4 => ?_)
 ·
  have q5 : J.bad = true := hc4
  refine wp_seq_k fun _ k6 => wp_region_lit ?_
  refine L (r_as Z rfl) Z rfl ?_; clear Z az; intro az Z
  refine k6 _ _ ?_
  refine wp_ret ?_
  show bodyPost _ _ _ .ret _ _
  refine ret_of (vs := [.int .i64 (7)]) Z Tryz.results43 ⟨rfl, trivial⟩ ?_
  rw [syn_0t hc4]; refine ⟨rfl, ?_⟩
  refine ⟨_, JT.make (J := J) hB rO okO hd s1 s2, ?_, ?_, ?_⟩
  · exact (Only.refl _ w)
  · intro k hk; rcases hk with (hk | hk) | hk
    · exact .inl (.inl (.inl hk))
    · exact .inl (.inl (.inr hk))
    · exact ((.inl hk) : F.m k ∨ w.heap.size ≤ k).imp .inr id
  · intro k hk; rcases hk with hk | hk
    · exact hk.elim
    · exact ((.inl hk) : F.r k ∨ w.heap.size ≤ k).imp .inr id
 ·
  have q7 : J.bad = false := hc4
  refine wp_skip ?_
  refine k2 _ _ (wp_seq_k fun _ k8 => ?_)
  refine reg_p F.m 0 [8] (.rd 0 (.rd 1 (.rd 2 (.rd 3 (.rd 4 (.rd 5 (.rd 6 (.rd 7 (.ex 8 (.rd 9 .nil)))))))))) (by kernel_rfl) (by kernel_rfl) (fun _ _ _ _ _ h => h) fun w9 o10 => ?_
  have B11 := (Blk.k hB o10)
  refine Pl.MSP (b := false) (by kernel_rfl) (fun W oW => r_mv Z rfl) Z rfl rfl ?_; clear Z az; intro az Z
  refine Pl.MSP (b := false) (by kernel_rfl) (fun W oW => r_nilP Z rfl) Z rfl rfl ?_; clear Z az; intro az Z
  refine Pl.MSP (b := false) (by kernel_rfl) (fun W oW => r_fa (m' := 0) Tryz.underlying110 rfl Tryz.sizeOf25 rfl Z rfl rfl) Z rfl rfl ?_; clear Z az; intro az Z
  refine Pl.MSP (b := true) (by kernel_rfl) (fun W oW => r_ld Tryz.isAgg25 Z rfl ((Blk.ca (Blk.k B11 oW)) 0 _ rfl)) Z rfl rfl ?_; clear Z az; intro az Z
  refine Pl.MSP (b := false) (by kernel_rfl) (fun W oW => r_mv Z rfl) Z rfl rfl ?_; clear Z az; intro az Z
  refine Pl.MSP (b := false) (by kernel_rfl) (fun W oW => r_nilP Z rfl) Z rfl rfl ?_; clear Z az; intro az Z
  refine Pl.MSP (b := false) (by kernel_rfl) (fun W oW => r_fa (m' := 1) Tryz.underlying110 rfl Tryz.sizeOf3 rfl Z rfl rfl) Z rfl rfl ?_; clear Z az; intro az Z
  refine Pl.MSP (b := true) (by kernel_rfl) (fun W oW => r_ld Tryz.isAgg3 Z rfl ((Blk.ca (Blk.k B11 oW)) 1 _ rfl)) Z rfl rfl ?_; clear Z az; intro az Z
  have T12 : (DiskT b D) w9 F := ((diskT_good b D).only hd o10 (fun _ _ h => h))
  refine Pl.MSC Z rfl rfl rfl Tryz.call48 (dSync_c T12 J.f) rfl ?_
  rintro e w13 ⟨rfl, F14, h15, o16, fm17, fr18⟩
  refine ⟨_, rfl, ⟨fun h => absurd h (by decide), (Only.trans (Only.refl F.m w9) o16 (fun _ h => .inl h))⟩, ?_⟩
  clear Z az; intro az Z
  refine Pl.MSP (b := false) (by kernel_rfl) (fun W oW => r_as Z rfl) Z rfl rfl ?_; clear Z az; intro az Z
  refine wpPl_nil ?_
  refine k8 _ _ (wp_seq_k fun _ k19 => wp_region_lit ?_)
  refine L (r_mv Z rfl) Z rfl ?_; clear Z az; intro az Z
  refine L (r_mv Z rfl) Z rfl ?_; clear Z az; intro az Z
  refine L (r_neI Z rfl rfl) Z rfl ?_; clear Z az; intro az Z
  refine L (r_nilP Z rfl) Z rfl ?_; clear Z az; intro az Z
  refine L (r_fa (m' := 4) Tryz.underlying110 rfl Tryz.sizeOf4 rfl Z rfl rfl) Z rfl ?_; clear Z az; intro az Z
  have B20 := (Blk.only B11 o16 (fun h => s1 (.inl h)))
  refine LSt (cs' := [.pointer (some ⟨b, 0, none⟩), .int .i64 (J.f), .slice A (J.l.length) c, .int .i64 (((J.n : Nat) : Int)), .bool ((!(decide ((D.sync J.f).2 = 0))))]) Tryz.sizeOf4 Z rfl rfl rfl rfl rfl ⟨rfl, trivial⟩ B20 rfl rfl fun w21 s22 B23 => ?_
  refine k19 _ _ (wp_seq_k fun _ k24 => wp_region_lit ?_)
  refine L (r_mv Z rfl) Z rfl ?_; clear Z az; intro az Z
  refine L (r_as Z rfl) Z rfl ?_; clear Z az; intro az Z
  refine k24 _ _ ?_
  refine wp_ret ?_
  show bodyPost _ _ _ .ret _ _
  refine ret_of (vs := [.int .i64 ((D.sync J.f).2)]) Z Tryz.results43 ⟨rfl, trivial⟩ ?_
  rw [syn_0f hc4]; refine ⟨rfl, ?_⟩
  have sp25 : ¬ Foot.all F14 g := sep_next s1 (Nat.lt_of_lt_of_le (Blk.lt hB) (size_only o10)) fm17 fr18
  have T26 : (DiskT b (D.sync J.f).1) w21 F14 := ((diskT_good b (D.sync J.f).1).only h15 s22 (fun k hk (e : k = g) => sp25 (by rw [← e]; exact hk)))
  have r27 := (ow_only (ow_only (ow_k rO o10) o16 (fun k hk hF => s2 k hk (.inl hF))) s22 (fun k hk hF => ow_nb (ow_only (ow_k rO o10) o16 (fun k hk hF => s2 k hk (.inl hF))) B20 (by decide) (by rw [show k = g from hF] at hk; exact hk)))
  have sp28 : ∀ k, ownF (.slice A (J.l.length) c) k → ¬ Foot.all F14 k := sep_nexto s2 (fun k hk => Nat.lt_of_lt_of_le (ownF_lt rO k hk) (size_only o10)) fm17 fr18
  refine ⟨_, JT.make (J := { J with bad := !decide ((D.sync J.f).2 = 0) }) B23 r27 okO T26 sp25 sp28, ?_, ?_, ?_⟩
  · exact (Only.trans (Only.trans (Only.trans (Only.refl _ w) o10 (fun _ h => h.elim)) o16 (fun k h => (.inl (.inr h)))) s22 (fun k h => .inl (.inl (.inl h))))
  · intro k hk; rcases hk with (hk | hk) | hk
    · exact .inl (.inl (.inl hk))
    · exact .inl (.inl (.inr hk))
    · exact (((fm17 _ hk).elim (fun h => (.inl h)) (fun h => .inr (Nat.le_trans (size_only o10) h))) : F.m k ∨ w.heap.size ≤ k).imp .inr id
  · intro k hk; rcases hk with hk | hk
    · exact hk.elim
    · exact (((fr18 _ hk).elim (fun h => (.inl h)) (fun h => .inr (Nat.le_trans (size_only o10) h))) : F.r k ∨ w.heap.size ≤ k).imp .inr id
end
section
open Go.RowKit
def AllTo (l : List Str) (w : World) (e : Ending) (w' : World) : Prop := ∃ A c, e = .returned (.slice A l.length c) ∧ w'.ownsRow w.heap.size 9 1 (.slice A l.length c) l.length (l.flatMap KStr.cells) ∧ Only NoF w w'
theorem info_str : (Tryz.prog.info? 9).map (fun i => (i.zero, i.size, i.bytes)) = some (some (strV []), 1, 16) := by kernel_rfl
section
variable {P : Program} {w : World} {n : Nat} {l : List (Nat × Value)} {a : Act} {dst : Option Tmp} {ty : TypeId} {pos : String} {aft : Array Edge} {g : Option (Nat × Bool)}
theorem r_mkS {x y : Operand} {m : Nat} {n : Nat} (H : Fr m l a) (hx : ev l x = some (.int .i64 ((n : Nat) : Int))) (hy : ev l y = some (.int .i64 ((n : Nat) : Int))) (hn : n ≤ 1000000000) :
 (execOp a.eval ⟨dst, .makeSlice 68 x y, ty, pos, aft, g⟩).run Tryz.prog w = .ok (.value (.slice (some ⟨w.heap.size, 0, none⟩) n n)) (w.alloc (.cells (List.replicate n (strV [])).toArray 9)) := by
 obtain ⟨i, hi, hz0, hz1, hz2⟩ := info_parts info_str
 have := run_make (P := Tryz.prog) w 68 9 i _ Tryz.underlying68 hi hz0 .i64 .i64 ((n : Nat) : Int) ((n : Nat) : Int) (by omega) (by omega) (by rw [hz2]; omega) (by omega)
 rw [hz1] at this
 have e : madeCells (strV []).cells (n * 1) = (List.replicate n (strV [])).toArray := by
  rw [Nat.mul_one]; unfold madeCells
  have e1 : ∀ i : Nat, (strV []).cells[i % (strV []).cells.size]! = strV [] := fun i => by
   show #[strV []][i % 1]! = strV []
   rw [Nat.mod_one]; rfl
  rw [show ((fun i => (strV []).cells[i % (strV []).cells.size]!) : Nat → Value) = fun _ => strV [] from funext e1]
  apply Array.ext'
  simp
  rw [List.map_const', List.length_range]
 simp only [execOp, H.eval hx, H.eval hy, this, Int.toNat_natCast, e, Sem.run_bind, Result.andThen_ok, Sem.run_pure]
end
theorem copy_own {w : World} {g base : Nat} {A : Option Addr} {c : Nat} {l : List Str} (hb : Blk w g 9 (List.replicate l.length (strV [])).toArray) (hg : base ≤ g) (hs : StrsV w (.slice A l.length c) l) (hl : l.length ≤ maxLen) :
 ∃ w', (∀ ty, (Builtin.copy_ #[68, 68] ty #[.slice (some ⟨g, 0, none⟩) l.length l.length, .slice A l.length c]).run Tryz.prog w = .ok (goInt l.length) w') ∧ w'.ownsRow base 9 1 (.slice (some ⟨g, 0, none⟩) l.length l.length) l.length (l.flatMap KStr.cells) ∧ Only (oneF g) w w' := by
 obtain ⟨i, hi, hz0, hz1, hz2⟩ := info_parts info_str
 obtain ⟨A', c', e', _, _, hr⟩ := Row.reads KStr hs
 cases e'
 have h1 := flat_one KStr l
 have hlen := flat_len KStr l
 refine ⟨_, fun ty => run_copy_blk (P := Tryz.prog) Tryz.underlying68 hi hz1 hb 0 l.length l.length A l.length c l.length (Nat.min_self _) _ hr h1 (by rw [List.length_replicate]; show 0 + l.length * 1 ≤ _; omega), ?_, (Only.refl (oneF g) w).setRow' (.inl rfl) _⟩
 have e : splice (List.replicate l.length (strV [])) 0 (l.flatMap KStr.cells) = l.flatMap KStr.cells := by
  unfold splice
  have : (l.flatMap KStr.cells).length = l.length * 1 := hlen
  rw [List.take_zero, List.nil_append, List.drop_of_length_le (by rw [List.length_replicate]; omega), List.append_nil]
 rw [e]
 exact own_of_blk (Blk.setRow_ hb _) hg hlen (Nat.le_refl _) hl hlen (List.take_of_length_le (by rw [hlen]; exact Nat.le_refl _))
section
variable {P : Program} {w w' : World} {n : Nat} {l : List (Nat × Value)} {a : Act} {dst : Option Tmp} {ty : TypeId} {pos : String} {aft : Array Edge} {g : Option (Nat × Bool)}
theorem r_cpS {t t2 : TypeId} {x y : Operand} {v v2 r : Value} (h : ∀ ty, (Builtin.copy_ #[t, t2] ty #[v, v2]).run P w = .ok r w') (H : Fr n l a) (hx : ev l x = some v) (hy : ev l y = some v2) :
 (execOp a.eval ⟨dst, .call { callee := .builtin .copy, args := #[x, y], argTypes := #[t, t2] }, ty, pos, aft, g⟩).run P w = .ok (.value r) w' := by
 simp [execOp, resolve, invoke, builtin, h, H.eval hx, H.eval hy]
end
theorem All_v_ {w : World} {b g : Nat} {J : Jn} {A : Option Addr} {c : Nat} (hB : Blk w g 110 (jrnCells b J A c)) (f1 : StrsV w (.slice A J.l.length c) J.l) (hl : J.l.length ≤ 100000000) : Calls Tryz.prog 27 [.pointer (some ⟨g, 0, none⟩)].toArray w (AllTo J.l w) := by
 refine calls_start Tryz.func27 rfl rfl ?_
 intro az Z
 rw [Tryz.ntmps27] at Z
 refine wp_seq_k fun _ k1 => wp_region_lit ?_
 refine L (r_as Z rfl) Z rfl ?_; clear Z az; intro az Z
 refine k1 _ _ (wp_seq_k fun _ k2 => wp_region_lit ?_)
 refine L (r_mv Z rfl) Z rfl ?_; clear Z az; intro az Z
 refine L (r_nilP Z rfl) Z rfl ?_; clear Z az; intro az Z
 refine L (r_fa (m' := 2) Tryz.underlying110 rfl Tryz.sizeOf68 rfl Z rfl rfl) Z rfl ?_; clear Z az; intro az Z
 refine L (r_ld Tryz.isAgg68 Z rfl ((Blk.ca hB) 2 _ rfl)) Z rfl ?_; clear Z az; intro az Z
 refine L (r_lenL Tryz.underlying68 Z rfl) Z rfl ?_; clear Z az; intro az Z
 obtain ⟨g3, w4, hw, hA, hg5, hl6, o7, B8⟩ := newBlk (w := w) (e := 9) (cs := List.replicate J.l.length (strV []))
 refine L (r_mkS (n := J.l.length) Z rfl rfl (by omega)) Z rfl ?_
 rw [← hw, ← hA]; clear Z az; intro az Z
 clear hw hA
 refine L (r_as Z rfl) Z rfl ?_; clear Z az; intro az Z
 refine k2 _ _ (wp_seq_k fun _ k9 => wp_region_lit ?_)
 refine L (r_mv Z rfl) Z rfl ?_; clear Z az; intro az Z
 refine L (r_mv Z rfl) Z rfl ?_; clear Z az; intro az Z
 refine L (r_nilP Z rfl) Z rfl ?_; clear Z az; intro az Z
 refine L (r_fa (m' := 2) Tryz.underlying110 rfl Tryz.sizeOf68 rfl Z rfl rfl) Z rfl ?_; clear Z az; intro az Z
 have B10 := (Blk.k hB o7)
 refine L (r_ld Tryz.isAgg68 Z rfl ((Blk.ca B10) 2 _ rfl)) Z rfl ?_; clear Z az; intro az Z
 have h15 := (SliceOf.kp f1 o7 (fun _ _ h => h) (fun _ _ _ _ h => h))
 obtain ⟨w11, hr12, r13, o14⟩ := copy_own B8 hg5 h15 (by unfold maxLen; omega)
 refine L (r_cpS hr12 Z rfl rfl) Z rfl ?_; clear Z az; intro az Z
 refine k9 _ _ (wp_seq_k fun _ k16 => wp_region_lit ?_)
 refine L (r_mv Z rfl) Z rfl ?_; clear Z az; intro az Z
 refine L (r_as Z rfl) Z rfl ?_; clear Z az; intro az Z
 refine k16 _ _ ?_
 refine wp_ret ?_
 show bodyPost _ _ _ .ret _ _
 refine ret_of (vs := [.slice (some ⟨g3, 0, none⟩) (J.l.length) J.l.length]) Z Tryz.results27 ⟨rfl, trivial⟩ ?_
 have O17 : Only NoF w w11 := (o_sg o7 o14 (Nat.le_refl _) (oneF_ge hg5))
 exact ⟨_, _, rfl, r13, O17⟩
end
section
open Go.RowKit
section
variable {w : World} {b g : Nat} {D : Dsk} {J : Jn} {F : Foot} {X : Thing}
theorem BothT.m2 (h : BothT X (DiskT b D) w F) : ∃ F2, IsDisk w b D F2 ∧ (∀ k, F2.m k → F.m k) ∧ ∀ k, F2.r k → F.r k := by
 obtain ⟨G1, G2, _, h2, _, _, rfl⟩ := h
 exact ⟨G2, h2, fun k hk => .inr hk, fun k hk => .inr hk⟩
theorem BothT.comb {X Y' : Thing} {w' : World} {G1 G2 : Foot} (gX : Good X) (h1 : X w G1) (s1 : ∀ k, G1.m k → ¬ G2.all k) (s2 : ∀ k, G2.m k → ¬ G1.all k) (ht : ThingTo Y' w G2 w') : ThingTo (BothT X Y') w ⟨fun k => G1.m k ∨ G2.m k, fun k => G1.r k ∨ G2.r k⟩ w' := by
 obtain ⟨F', h', o, fm, fr⟩ := ht
 have hlt := gX.lt h1
 have hx := gX.only h1 o fun k hk hF => s2 k hF hk
 refine ⟨_, ⟨G1, F', hx, h', fun k hk hF => ?_, fun k hk hF => ?_, rfl⟩, o.mono fun k hk => .inr hk, fun k hk => ?_, fun k hk => ?_⟩
 · rcases hF with hF | hF
   · rcases fm k hF with h | h
     · exact s1 k hk (.inl h)
     · have := hlt k (.inl hk); omega
   · rcases fr k hF with h | h
     · exact s1 k hk (.inr h)
     · have := hlt k (.inl hk); omega
 · rcases fm k hk with h | h
   · exact s2 k h hF
   · have := hlt k hF; omega
 · rcases hk with hk | hk
   · exact .inl (.inl hk)
   · exact (fm k hk).imp .inr id
 · rcases hk with hk | hk
   · exact .inl (.inl hk)
   · exact (fr k hk).imp .inr id
/-- a call on the right one of two things -/
theorem BothT.call {X Y Y' : Thing} {G : Foot} (gX : Good X) (h : BothT X Y w G) {f : FuncId} {args : Array Value} {v : Value}
 (hc : ∀ G2, Y w G2 → (∀ k, G2.m k → G.m k) → (∀ k, G2.r k → G.r k) → Calls Tryz.prog f args w (TurnTo v Y' w G2)) : Calls Tryz.prog f args w (TurnTo v (BothT X Y') w G) := by
 obtain ⟨G1, G2, h1, h2, s1, s2, rfl⟩ := h
 exact (hc G2 h2 (fun k hk => .inr hk) (fun k hk => .inr hk)).mono fun e w' ⟨he, ht⟩ => ⟨he, BothT.comb gX h1 s1 s2 ht⟩
def NewTo (D : Dsk) (w : World) (e : Ending) (w' : World) : Prop := ∃ b F, e = .returned (.pointer (some ⟨b, 0, none⟩)) ∧ IsDisk w' b D F ∧ Only NoF w w' ∧ ∀ k, F.all k → w.heap.size ≤ k
theorem dNew_l (w : World) : Calls Tryz.prog 6 ([] : List Value).toArray w (NewTo Dsk.init w) :=
 (dNew_c w).mono fun _ _ ⟨b, he, F, h1, h2, h3⟩ => ⟨b, F, he, h1, h2, h3⟩
theorem JT.d (h : BothT X (DiskT b D) w F) : ∃ F2, DiskT b D w F2 := by
 obtain ⟨G1, G2, _, h2, _⟩ := h
 exact ⟨G2, h2⟩
theorem append_j (hG : Gr w) (h : JT b g D J w F) (h6 : ∀ k, F.m k → 6 ≤ k) {t : Str} (ht : t.length ≤ 900000) (hn : J.n ≤ 100000000) (hll : J.l.length ≤ 100000000) {D' : Dsk} {J' : Jn} {er : Int} (e : J.append D t = (D', J', er)) : Calls Tryz.prog 39 [.pointer (some ⟨g, 0, none⟩), strV t].toArray w (TurnTo (.int .i64 er) (JT b g D' J') w F) := by
 obtain ⟨G1, G2, ⟨A, c, h1, h2, h3, rfl⟩, h4, s1, s2, rfl⟩ := h
 have := Append_v_ hG h1 h2 h3 h4 (s1 g (.inl rfl)) (fun k hk => s1 k (.inr hk)) h6 ht hn hll
 rw [e] at this
 exact this
theorem sync_j (hG : Gr w) (h : JT b g D J w F) (h6 : ∀ k, F.m k → 6 ≤ k) {D' : Dsk} {J' : Jn} {er : Int} (e : J.sync D = (D', J', er)) : Calls Tryz.prog 43 [.pointer (some ⟨g, 0, none⟩)].toArray w (TurnTo (.int .i64 er) (JT b g D' J') w F) := by
 obtain ⟨G1, G2, ⟨A, c, h1, h2, h3, rfl⟩, h4, s1, s2, rfl⟩ := h
 have := Sync_v_ hG h1 h2 h3 h4 (s1 g (.inl rfl)) (fun k hk => s1 k (.inr hk)) h6
 rw [e] at this
 exact this
theorem BothT.l {Y : Thing} (h : BothT X Y w F) : ∃ F1, X w F1 := by
 obtain ⟨G1, G2, h1, _⟩ := h
 exact ⟨G1, h1⟩
theorem BothT.r {Y : Thing} (h : BothT X Y w F) : ∃ F1, Y w F1 := by
 obtain ⟨G1, G2, _, h2, _⟩ := h
 exact ⟨G2, h2⟩
theorem all_b (h : ∃ F, JB b g J w F) (hl : J.l.length ≤ 100000000) : Calls Tryz.prog 27 [.pointer (some ⟨g, 0, none⟩)].toArray w (AllTo J.l w) := by
 obtain ⟨F, A, c, h1, h2, h3, _⟩ := h
 exact All_v_ h1 (SliceOf.pl (Row.own KStr h2 h3)) hl
theorem okB (h : ∃ F, JB b g J w F) : ∀ z ∈ J.l, KStr.ok z := by
 obtain ⟨F, A, c, h1, h2, h3, _⟩ := h
 exact h3
end
end
end Go.Proofs.YtdegmpigkgkafaaGreatDoor
