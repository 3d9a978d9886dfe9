/-
  Gossip: the law's other functions, walked. Condition: the listed variables; at most 1,000,000 notes.
-/
import Derived.Test.YtdcbjedkddgfkaaDoorGo14
namespace Go.Proofs.YtdcbjedkddgfkaaDoor
set_option maxHeartbeats 4000000
set_option maxRecDepth 20000
set_option linter.unusedVariables false
set_option linter.unusedSimpArgs false
set_option linter.unusedSectionVars false
open Go.RowKit
def KBool : Row Bool := ⟨1, fun m => [.bool m], fun _ => True, fun _ => rfl, by decide, fun x u hu => by
 simp at hu
 subst hu; rfl⟩
def KU8 : Row UInt8 := ⟨1, fun m => [.int .u8 ((m.toNat : Nat) : Int)], fun _ => True, fun _ => rfl, by decide, fun x u hu => by
 simp at hu
 subst hu; rfl⟩
/-! ### first -/
/-! ### gap -/
section
variable {l : List NM} {k q : Nat} {m : NM} {h z : Int} {B : List Bool} {i : Nat} {r : RM}
end
/-! ### shuffled -/
def ShufTo (l : List NM) (y : Nat) (w : World) (e : Ending) (w' : World) : Prop := ∃ A c, ∃ O : List NM, e = .returned (.slice A O.length c) ∧ (∀ x, x ∈ O ↔ x ∈ l) ∧ O.length ≤ l.length + y ∧ w'.ownsRow w.heap.size 42 5 (.slice A O.length c) O.length (O.flatMap KN0.cells) ∧ Only NoF w w'
theorem swap_mem {α : Type} {l : List α} {p q : Nat} {a b : α} (ha : l[p]? = some a) (hb : l[q]? = some b) (x : α) : x ∈ (l.set p b).set q a ↔ x ∈ l := by
 obtain ⟨hp, ea⟩ := List.getElem?_eq_some_iff.1 ha
 obtain ⟨hq, eb⟩ := List.getElem?_eq_some_iff.1 hb
 have key : ∀ i, ((l.set p b).set q a)[i]? = if i = q then some a else if i = p then some b else l[i]? := by
  intro i
  rw [List.getElem?_set, List.length_set, List.getElem?_set]
  by_cases e1 : i = q
  · subst e1; rw [if_pos rfl, if_pos hq, if_pos rfl]
  · rw [if_neg (fun h => e1 h.symm), if_neg e1]
    by_cases e2 : i = p
    · subst e2; rw [if_pos rfl, if_pos hp, if_pos rfl]
    · rw [if_neg (fun h => e2 h.symm), if_neg e2]
 constructor
 · intro hx
   obtain ⟨i, hi⟩ := List.getElem?_of_mem hx
   rw [key] at hi
   split at hi
   · injection hi with hi; subst hi; exact List.mem_of_getElem? ha
   · split at hi
     · injection hi with hi; subst hi; exact List.mem_of_getElem? hb
     · exact List.mem_of_getElem? hi
 · intro hx
   obtain ⟨i, hi⟩ := List.getElem?_of_mem hx
   by_cases e1 : i = q
   · subst e1
     rw [hb] at hi; injection hi with hi; subst hi
     by_cases e2 : p = i
     · subst e2
       refine List.mem_of_getElem? (i := p) ?_
       rw [key, if_pos rfl]; rw [ha] at hb; exact hb ▸ rfl
     · refine List.mem_of_getElem? (i := p) ?_
       rw [key, if_neg e2, if_pos rfl]
   · by_cases e2 : i = p
     · subst e2
       rw [ha] at hi; injection hi with hi; subst hi
       refine List.mem_of_getElem? (i := q) ?_
       rw [key, if_pos rfl]
     · refine List.mem_of_getElem? (i := i) ?_
       rw [key, if_neg e1, if_neg e2]; exact hi
theorem app_mem {α : Type} {l l2 : List α} {a : α} (h : ∀ x, x ∈ l2 ↔ x ∈ l) (ha : a ∈ l) (x : α) : x ∈ l2 ++ [a] ↔ x ∈ l := by
 rw [List.mem_append, List.mem_singleton, h]
 constructor
 · rintro (e | e)
   · exact e
   · subst e; exact ha
 · exact .inl
theorem rem_at {b : UInt8} {n : Nat} (hn : 0 < n) : ∃ p : Nat, Int.tmod ((b.toNat : Nat) : Int) ((n : Nat) : Int) = (p : Int) ∧ p < n := by
 refine ⟨b.toNat % n, ?_, Nat.mod_lt _ hn⟩
 rw [Int.tmod_eq_emod_of_nonneg (by omega)]; rfl
/-! ### wants -/
def wantsN (N : List RM) : List RM := N.map fun r => ⟨r.h, r.n - 1⟩
theorem wa_step {N : List RM} {k : Nat} {r : RM} (hr : N[k]? = some r) : wantsN (N.take (k + 1)) = wantsN (N.take k) ++ [⟨r.h, r.n - 1⟩] := by
 unfold wantsN
 rw [take_succ_get hr, List.map_append]; rfl
theorem wa_len {N : List RM} : (wantsN N).length = N.length := by unfold wantsN; rw [List.length_map]
theorem heads_bnd {l : List NM} (hl : l.length ≤ 1000000) : (headsN (joinN l)).length ≤ 1000000 := by
 have h1 := hd_len (runN (joinN l)).1
 rw [headN_eq]
 have h2 := congrArg List.length (run_houses (joinN l)).1
 rw [List.length_map, List.length_map] at h2
 have h3 := hou_len (joinN l)
 have h4 := joinN_le l
 omega
theorem heads_pos {l : List NM} (hl : l.length ≤ 1000000) : ∀ r ∈ headsN (joinN l), 1 ≤ r.n ∧ r.n ≤ 1000000 := fun r hr => by
 have h1 := (heads_mem (join_up l) r).1 hr
 have h2 := taken_le (join_up l) r.h
 have h3 := past_400 (ofN (joinN l) r.h)
 omega
theorem wa_ok {N : List RM} (h1 : ∀ r ∈ N, KRef.ok r) (h2 : ∀ r ∈ N, 1 ≤ r.n ∧ r.n ≤ 1000000) : ∀ r ∈ wantsN N, KRef.ok r := fun r hr => by
 unfold wantsN at hr
 obtain ⟨x, hx, rfl⟩ := List.mem_map.1 hr
 have h3 := h2 x hx
 exact ⟨(h1 x hx).1, by show I64 (x.n - 1); unfold I64; omega⟩
theorem app_Fg {v v' : Value} {m k : Nat} (al : v'.ownBlock = v.ownBlock ∨ v'.ownBlock = some m) (h : ownF v' k) : ownF v k ∨ k = m := by
 unfold ownF at h ⊢
 rcases al with al | al
 · rw [al] at h; exact .inl h
 · rw [al] at h; injection h with h; exact .inr h.symm
theorem placed_v_ {w : World} {b : List NM} {A1 A2 A3 : Option Addr} {c1 c2 c3 : Nat} (f1 : SliceOf AllB 5 KN0.R w (.slice A1 b.length c1) b) (hl : b.length ≤ 1000000) {m : NM} (hx : okN AllB w m) {N : List RM} (f2 : RefsV w (.slice A2 N.length c2) N) {F : List Int} (f3 : IntsV w (.slice A3 F.length c3) F) : Calls Tryd.prog 24 [.slice A1 b.length c1, .agg #[.int .i64 m.h, .int .i64 m.n, .int .i64 m.d, .slice m.A m.l.length m.c, strV m.s], .slice A2 N.length c2, .slice A3 F.length c3].toArray w (Fix (.bool (placedN b m N F)) w) := by
 have hml := SliceOf.len hx.2.2.2.1
 unfold maxLen at hml
 refine calls_start Tryd.func24 rfl rfl ?_
 intro az Z
 rw [Tryd.ntmps24] at Z
 refine wp_seq_k fun _ k1 => wp_region_lit ?_
 refine LBox Z rfl rfl rfl ?_
 clear Z az; intro g2 w3 hg6 hl7 o4 B5 az Z
 refine L (r_as Z rfl) Z rfl ?_; clear Z az; intro az Z
 refine k1 _ _ (wp_seq_k fun _ k8 => ?_)
 refine wp_seq_k fun _ k9 => ?_
 refine reg_p NoF 1 [3] (.rd 0 (.rd 1 (.rd 2 (.rd 5 (.rd 6 (.ex 3 (.rd 4 (.rd 7 .nil)))))))) (by kernel_rfl) (by kernel_rfl) (fun _ _ _ _ _ h => h) fun w10 o11 => ?_
 have B12 := (Blk.k B5 o11)
 refine Pl.MSP (b := true) (by kernel_rfl) (fun W oW => r_mv Z rfl) Z rfl rfl ?_; clear Z az; intro az Z
 refine Pl.MSP (b := true) (by kernel_rfl) (fun W oW => r_fa (m' := 0) Tryd.underlying42 rfl Tryd.sizeOf3 rfl Z rfl rfl) Z rfl rfl ?_; clear Z az; intro az Z
 refine Pl.MSP (b := true) (by kernel_rfl) (fun W oW => r_ld Tryd.isAgg3 Z rfl ((Blk.ca (Blk.k B12 oW)) 0 _ rfl)) Z rfl rfl ?_; clear Z az; intro az Z
 refine Pl.MSP (b := true) (by kernel_rfl) (fun W oW => r_fa (m' := 1) Tryd.underlying42 rfl Tryd.sizeOf3 rfl Z rfl rfl) Z rfl rfl ?_; clear Z az; intro az Z
 refine Pl.MSP (b := true) (by kernel_rfl) (fun W oW => r_ld Tryd.isAgg3 Z rfl ((Blk.ca (Blk.k B12 oW)) 1 _ rfl)) Z rfl rfl ?_; clear Z az; intro az Z
 have O17 : Only NoF w w10 := (Only.trans' o4 o11)
 have h18 := (SliceOf.kp f1 O17 (fun _ _ h => h) (fun _ _ _ _ h => h))
 refine Pl.MSC Z rfl rfl rfl Tryd.call21 (of39_v_ h18 hl m.h) rfl ?_
 rintro e w19 ⟨A13, c14, rfl, r15, o16⟩; refine ⟨_, rfl, ⟨fun _ => o16, (Only.trans (Only.refl NoF w10) o16 (fun _ h => h.elim))⟩, ?_⟩
 clear Z az; intro az Z
 refine Pl.MSP (b := true) (by kernel_rfl) (fun W oW => r_lenL Tryd.underlying22 Z rfl) Z rfl rfl ?_; clear Z az; intro az Z
 refine Pl.MSP (b := true) (by kernel_rfl) (fun W oW => r_neI Z rfl rfl) Z rfl rfl ?_; clear Z az; intro az Z
 refine wpPl_nil ?_
 refine k9 _ _ ?_
 refine br Z rfl (fun hc20 => ?_) (fun hc20 => ?_)
 ·
  have p21 := of_decide_eq_false (nt_t hc20)
  refine wp_seq_k fun _ k22 => wp_region_lit ?_
  refine L (r_as Z rfl) Z rfl ?_; clear Z az; intro az Z
  refine k22 _ _ ?_
  refine wp_ret ?_
  show bodyPost _ _ _ .ret _ _
  refine ret_of (vs := [.bool (false)]) Z Tryd.results24 ⟨rfl, trivial⟩ ?_
  have O23 : Only NoF w w19 := (Only.trans' O17 o16)
  rw [pl_head hc20]; exact ⟨rfl, O23⟩
 ·
  have p24 := of_decide_eq_true (nt_f hc20)
  refine wp_skip ?_
  refine k8 _ _ (wp_seq_k fun _ k25 => ?_)
  refine wp_seq_k fun _ k26 => wp_region_lit ?_
  refine L (r_as Z rfl) Z rfl ?_; clear Z az; intro az Z
  refine k26 _ _ ?_
  refine wp_block ?_
  refine wp_loop_m (fun mz az W => ∃ k : Nat, mz = m.l.length - k ∧ Fr 61 [(0, .slice A1 (b.length) c1), (2, .slice A2 (N.length) c2), (3, .slice A3 (F.length) c3), (5, .pointer (some ((⟨g2, 0, none⟩ : Addr)))), (9, .int .i64 ((k : Int)))] az ∧ (k ≤ m.l.length) ∧ (∀ r ∈ m.l.take k, plR b N F r = true) ∧ Only NoF w19 W) ?_ ?_
  ·
   exact ⟨_, 0, rfl, Z.cut ⟨rfl, rfl, rfl, rfl, rfl, trivial⟩, Nat.zero_le _, (fun r h => by cases h), (Only.refl NoF w19)⟩
  clear Z az
  rintro mz az w27 ⟨k, hm29, Z, hk, h0, o28⟩
  refine wp_seq_k fun _ k30 => ?_
  refine wp_seq_k fun _ k31 => wp_region_lit ?_
  refine L (r_mv Z rfl) Z rfl ?_; clear Z az; intro az Z
  refine L (r_fa (m' := 3) Tryd.underlying42 rfl Tryd.sizeOf36 rfl Z rfl rfl) Z rfl ?_; clear Z az; intro az Z
  have B32 := (Blk.k (Blk.k B12 o16) o28)
  refine L (r_ld Tryd.isAgg36 Z rfl ((Blk.ca B32) 3 _ rfl)) Z rfl ?_; clear Z az; intro az Z
  refine L (r_lenL Tryd.underlying36 Z rfl) Z rfl ?_; clear Z az; intro az Z
  refine L (r_ltI Z rfl rfl) Z rfl ?_; clear Z az; intro az Z
  refine k31 _ _ ?_
  refine br Z rfl (fun hc33 => ?_) (fun hc33 => ?_)
  ·
   have p34 := of_decide_eq_true hc33
   refine wp_skip ?_
   refine k30 _ _ (wp_seq_k fun _ k35 => ?_)
   refine wp_block ?_
   refine wp_seq_k fun _ k36 => wp_region_lit ?_
   refine L (r_fa (m' := 3) Tryd.underlying42 rfl Tryd.sizeOf36 rfl Z rfl rfl) Z rfl ?_; clear Z az; intro az Z
   refine L (r_ld Tryd.isAgg36 Z rfl ((Blk.ca B32) 3 _ rfl)) Z rfl ?_; clear Z az; intro az Z
   refine L (r_mv Z rfl) Z rfl ?_; clear Z az; intro az Z
   have hk37 : k < (m.l).length := by omega
   have O43 : Only NoF w w27 := (Only.trans' (Only.trans' O17 o16) o28)
   have h44 := (SliceOf.kp hx.2.2.2.1 O43 (fun _ _ h => h) (fun _ _ _ _ h => h))
   obtain ⟨m38, hm39, ok40, hA41⟩ := Row.el KRef h44 hk37
   have E42 : ∀ W, Only NoF w27 W → CA W (eA m.A 2 (k)) [.int .i64 (m38.h), .int .i64 (m38.n)] := Row.ce KRef h44 hm39 rfl
   refine L (r_ia (k := k) (size := 2) Tryd.underlying36 Tryd.sizeOf40 Z rfl rfl rfl hk37 hA41) Z rfl ?_; clear Z az; intro az Z
   refine L (r_fa (m' := 0) Tryd.underlying40 rfl Tryd.sizeOf3 rfl Z rfl rfl) Z rfl ?_; clear Z az; intro az Z
   refine L (r_ld Tryd.isAgg3 Z rfl ((E42 _ (Only.refl NoF w27)) 0 _ rfl)) Z rfl ?_; clear Z az; intro az Z
   refine L (r_as Z rfl) Z rfl ?_; clear Z az; intro az Z
   refine k36 _ _ (wp_seq_k fun _ k45 => ?_)
   refine reg_p NoF 3 [8, 14, 25] (.rd 0 (.rd 1 (.rd 2 (.rd 3 (.rd 4 (.rd 5 (.rd 6 (.rd 7 (.ex 8 (.rd 9 (.rd 10 (.rd 11 (.rd 12 (.rd 13 (.ex 14 (.rd 15 (.rd 16 (.rd 17 (.rd 18 (.rd 19 (.rd 20 (.rd 21 (.rd 22 (.rd 23 (.rd 24 (.ex 25 (.rd 26 (.rd 27 (.rd 28 .nil))))))))))))))))))))))))))))) (by kernel_rfl) (by kernel_rfl) (fun _ _ _ _ _ h => h) fun w46 o47 => ?_
   have B48 := (Blk.k B32 o47)
   refine Pl.MSP (b := true) (by kernel_rfl) (fun W oW => r_fa (m' := 3) Tryd.underlying42 rfl Tryd.sizeOf36 rfl Z rfl rfl) Z rfl rfl ?_; clear Z az; intro az Z
   refine Pl.MSP (b := true) (by kernel_rfl) (fun W oW => r_ld Tryd.isAgg36 Z rfl ((Blk.ca (Blk.k B48 oW)) 3 _ rfl)) Z rfl rfl ?_; clear Z az; intro az Z
   refine Pl.MSP (b := true) (by kernel_rfl) (fun W oW => r_mv Z rfl) Z rfl rfl ?_; clear Z az; intro az Z
   refine Pl.MSP (b := true) (by kernel_rfl) (fun W oW => r_ia (k := k) (size := 2) Tryd.underlying36 Tryd.sizeOf40 Z rfl rfl rfl hk37 hA41) Z rfl rfl ?_; clear Z az; intro az Z
   refine Pl.MSP (b := true) (by kernel_rfl) (fun W oW => r_fa (m' := 1) Tryd.underlying40 rfl Tryd.sizeOf3 rfl Z rfl rfl) Z rfl rfl ?_; clear Z az; intro az Z
   refine Pl.MSP (b := true) (by kernel_rfl) (fun W oW => r_ld Tryd.isAgg3 Z rfl ((E42 _ (Only.trans' o47 oW)) 1 _ rfl)) Z rfl rfl ?_; clear Z az; intro az Z
   refine Pl.MSP (b := true) (by kernel_rfl) (fun W oW => r_mv Z rfl) Z rfl rfl ?_; clear Z az; intro az Z
   refine Pl.MSP (b := true) (by kernel_rfl) (fun W oW => r_mv Z rfl) Z rfl rfl ?_; clear Z az; intro az Z
   have O53 : Only NoF w w46 := (Only.trans' O43 o47)
   have h54 := (SliceOf.kp f1 O53 (fun _ _ h => h) (fun _ _ _ _ h => h))
   refine Pl.MSC Z rfl rfl rfl Tryd.call21 (of39_v_ h54 hl m38.h) rfl ?_
   rintro e w55 ⟨A49, c50, rfl, r51, o52⟩; refine ⟨_, rfl, ⟨fun _ => o52, (Only.trans (Only.refl NoF w46) o52 (fun _ h => h.elim))⟩, ?_⟩
   clear Z az; intro az Z
   refine Pl.MSP (b := true) (by kernel_rfl) (fun W oW => r_lenL Tryd.underlying22 Z rfl) Z rfl rfl ?_; clear Z az; intro az Z
   refine Pl.MSP (b := true) (by kernel_rfl) (fun W oW => r_geI Z rfl rfl) Z rfl rfl ?_; clear Z az; intro az Z
   refine Pl.MSP (b := true) (by kernel_rfl) (fun W oW => r_mv Z rfl) Z rfl rfl ?_; clear Z az; intro az Z
   refine Pl.MSPG (b := true) (by kernel_rfl) Z rfl rfl gd_t (fun hb W oW => r_mv Z rfl) rfl rfl ?_; clear Z az; intro az Z
   refine Pl.MSPG (b := true) (by kernel_rfl) Z rfl rfl gd_t (fun hb W oW => r_mv Z rfl) rfl rfl ?_; clear Z az; intro az Z
   have O56 : Only NoF w w55 := (Only.trans' O53 o52)
   have h57 := (SliceOf.kp f3 O56 (fun _ _ h => h) (fun _ _ _ _ h => h))
   refine Pl.MSGV (v := .bool (hasI F m38.h)) Z rfl rfl gd_t rfl rfl (fun hb => (evs_c (evg hb rfl) (evs_c (evg hb rfl) rfl))) Tryd.call27 (fun hb => hasI_v_ h57 m38.h) rfl (fun w' o' => ⟨fun _ => (Only.trans' o52 o'), (Only.trans (Only.trans (Only.refl NoF w46) o52 (fun _ h => h.elim)) o' (fun _ h => h.elim))⟩) fun w58 o59 => ?_; clear Z az; intro az Z
   refine Pl.MSPG (b := true) (by kernel_rfl) Z rfl rfl gd_t (fun hb W oW => r_not Z (evg hb rfl)) rfl rfl ?_; clear Z az; intro az Z
   refine Pl.MSPG (b := true) (by kernel_rfl) Z rfl rfl gd_t (fun hb W oW => r_mv Z (evg hb rfl)) rfl rfl ?_; clear Z az; intro az Z
   refine Pl.MSPG (b := true) (by kernel_rfl) Z rfl rfl gd_gf (fun hb W oW => r_fa (m' := 3) Tryd.underlying42 rfl Tryd.sizeOf36 rfl Z rfl rfl) rfl rfl ?_; clear Z az; intro az Z
   refine Pl.MSPG (b := true) (by kernel_rfl) Z rfl rfl gd_gf (fun hb W oW => r_ld Tryd.isAgg36 Z (evg hb rfl) ((Blk.ca (Blk.k B48 oW)) 3 _ rfl)) rfl rfl ?_; clear Z az; intro az Z
   refine Pl.MSPG (b := true) (by kernel_rfl) Z rfl rfl gd_gf (fun hb W oW => r_mv Z rfl) rfl rfl ?_; clear Z az; intro az Z
   refine Pl.MSPG (b := true) (by kernel_rfl) Z rfl rfl gd_gf (fun hb W oW => r_ia (k := k) (size := 2) Tryd.underlying36 Tryd.sizeOf40 Z (evg hb rfl) (evg hb rfl) rfl hk37 hA41) rfl rfl ?_; clear Z az; intro az Z
   refine Pl.MSPG (b := true) (by kernel_rfl) Z rfl rfl gd_gf (fun hb W oW => r_fa (m' := 1) Tryd.underlying40 rfl Tryd.sizeOf3 rfl Z (evg hb rfl) rfl) rfl rfl ?_; clear Z az; intro az Z
   refine Pl.MSPG (b := true) (by kernel_rfl) Z rfl rfl gd_gf (fun hb W oW => r_ld Tryd.isAgg3 Z (evg hb rfl) ((E42 _ (Only.trans' o47 oW)) 1 _ rfl)) rfl rfl ?_; clear Z az; intro az Z
   refine Pl.MSPG (b := true) (by kernel_rfl) Z rfl rfl gd_gf (fun hb W oW => r_mv Z rfl) rfl rfl ?_; clear Z az; intro az Z
   refine Pl.MSPG (b := true) (by kernel_rfl) Z rfl rfl gd_gf (fun hb W oW => r_mv Z rfl) rfl rfl ?_; clear Z az; intro az Z
   have O60 : Only NoF w w58 := (Only.trans' O56 o59)
   have h61 := (SliceOf.kp f2 O60 (fun _ _ h => h) (fun _ _ _ _ h => h))
   refine Pl.MSGV (v := .int .i64 (cntH N m38.h)) Z rfl rfl gd_gf rfl rfl (fun hb => (evs_c (evg hb rfl) (evs_c (evg hb rfl) rfl))) Tryd.call25 (fun hb => cntH_v_ h61 m38.h) rfl (fun w' o' => ⟨fun _ => (Only.trans' (Only.trans' o52 o59) o'), (Only.trans (Only.trans (Only.trans (Only.refl NoF w46) o52 (fun _ h => h.elim)) o59 (fun _ h => h.elim)) o' (fun _ h => h.elim))⟩) fun w62 o63 => ?_; clear Z az; intro az Z
   refine Pl.MSPG (b := true) (by kernel_rfl) Z rfl rfl gd_gf (fun hb W oW => r_ltI Z (evg hb rfl) (evg hb rfl)) rfl rfl ?_; clear Z az; intro az Z
   refine Pl.MSPG (b := true) (by kernel_rfl) Z rfl rfl gd_t (fun hb W oW => r_or Z (evg hb rfl) rfl (evgc hb rfl)) rfl rfl ?_; clear Z az; intro az Z
   refine Pl.MSP (b := true) (by kernel_rfl) (fun W oW => r_and Z rfl rfl rfl) Z rfl rfl ?_; clear Z az; intro az Z
   refine wpPl_nil ?_
   refine k45 _ _ ?_
   refine br Z rfl (fun hc64 => ?_) (fun hc64 => ?_)
   ·
    have p65 := of_decide_eq_true (and_t hc64).1
    have d66 := (and_t hc64).2
    refine wp_seq_k fun _ k67 => wp_region_lit ?_
    refine L (r_as Z rfl) Z rfl ?_; clear Z az; intro az Z
    refine k67 _ _ ?_
    refine wp_ret ?_
    show bodyPost _ _ _ .ret _ _
    refine ret_of (vs := [.bool (false)]) Z Tryd.results24 ⟨rfl, trivial⟩ ?_
    have O68 : Only NoF w w62 := (Only.trans' O60 o63)
    rw [pl_bad hm39 hc64]; exact ⟨rfl, O68⟩
   ·
    have d69 := hc64
    refine wp_skip ?_
    refine k35 _ _ ?_
    refine wp_region_lit ?_
    refine L (r_mv Z rfl) Z rfl ?_; clear Z az; intro az Z
    have i70 : I64 (((k : Int) + 1)) := by unfold I64; omega
    refine L (r_addI (r := ((k : Int) + 1)) Z rfl rfl rfl i70) Z rfl ?_; clear Z az; intro az Z
    refine L (r_as Z rfl) Z rfl ?_; clear Z az; intro az Z
    have O71 : Only NoF w19 w62 := (Only.trans' (Only.trans' (Only.trans' (Only.trans' o28 o47) o52) o59) o63)
    exact ⟨_, (by omega), k + 1, rfl, Z.cut ⟨rfl, rfl, rfl, rfl, rfl, trivial⟩, (by omega), (pl_step hm39 h0 hc64), O71⟩
  ·
   have p72 := of_decide_eq_false hc33
   refine wp_exit ?_
   refine th_exit ?_
   refine th_exit ?_
   refine ib_hit ?_
   refine k25 _ _ (wp_seq_k fun _ k73 => wp_region_lit ?_)
   refine L (r_as Z rfl) Z rfl ?_; clear Z az; intro az Z
   refine k73 _ _ ?_
   refine wp_ret ?_
   show bodyPost _ _ _ .ret _ _
   refine ret_of (vs := [.bool (true)]) Z Tryd.results24 ⟨rfl, trivial⟩ ?_
   have O74 : Only NoF w w27 := (Only.trans' (Only.trans' O17 o16) o28)
   rw [List.take_of_length_le (by omega)] at h0; rw [pl_ok hc20 h0]; exact ⟨rfl, O74⟩
theorem wants_v_ {w : World} (hG : Gr w) {l : List NM} {A : Option Addr} {c : Nat} (t : NtV w (.slice A l.length c) l) (hl : l.length ≤ 1000000) : Calls Tryd.prog 30 [.slice A l.length c].toArray w (ROut (wantsN (headsN (joinN l))) w) := by
 refine calls_start Tryd.func30 rfl rfl ?_
 intro az Z
 rw [Tryd.ntmps30] at Z
 refine wp_seq_k fun _ k1 => wp_region_lit ?_
 refine L (r_as Z rfl) Z rfl ?_; clear Z az; intro az Z
 refine k1 _ _ (wp_seq_k fun _ k2 => wp_region_lit ?_)
 obtain ⟨A3, w4, hw, hA, r5, o6⟩ := made0 (w := w) (e := 40) (size := 2)
 refine L (r_bs0 Tryd.underlying36 Tryd.sizeOf40) Z rfl ?_
 rw [← hw, ← hA]; clear Z az; intro az Z
 clear hw hA
 refine L (r_as Z rfl) Z rfl ?_; clear Z az; intro az Z
 refine k2 _ _ (wp_seq_k fun _ k7 => wp_region_lit ?_)
 refine L (r_mv Z rfl) Z rfl ?_; clear Z az; intro az Z
 have G15 := Gr.k hG o6
 refine LC Z rfl rfl Tryd.call19 (Heads_v_ G15 (NtV.k t o6) hl) rfl ?_
 rintro e w8 ⟨A10, c11, rfl, r12, ok13, o9⟩; refine ⟨_, rfl, ?_⟩
 have hhl := heads_bnd hl
 obtain ⟨N, hN⟩ : ∃ N, N = headsN (joinN l) := ⟨_, rfl⟩
 rw [← hN] at r12 ok13 hhl
 have hbn : ∀ r ∈ N, 1 ≤ r.n ∧ r.n ≤ 1000000 := by rw [hN]; exact heads_pos hl
 rw [← hN]
 clear Z az; intro az Z
 refine L (r_as Z rfl) Z rfl ?_; clear Z az; intro az Z
 refine k7 _ _ (wp_seq_k fun _ k16 => ?_)
 refine wp_seq_k fun _ k17 => wp_region_lit ?_
 refine L (r_as Z rfl) Z rfl ?_; clear Z az; intro az Z
 refine k17 _ _ ?_
 refine wp_block ?_
 have hS18 := SliceOf.lt2 (K := KRef) (Row.own KRef r12 ok13)
 have hq19 := ownF_lt r5
 refine wp_loop_m (fun mz az W => ∃ k : Nat, ∃ O : List RM, ∃ Ao : Option Addr, ∃ co : Nat, mz = N.length - k ∧ Fr 31 [(4, .slice A10 (N.length) c11), (5, .int .i64 ((k : Int))), (3, .slice Ao (O.length) co)] az ∧ (k ≤ N.length) ∧ (O = wantsN (N.take k)) ∧ (∀ k, ownF (.slice Ao O.length co) k → ¬ (geB w4.heap.size k ∧ k < w8.heap.size)) ∧ Only NoF w W ∧ W.ownsRow w.heap.size 40 2 (.slice Ao O.length co) O.length (List.flatMap KRef.cells O) ∧ SliceOf (fun k => geB w4.heap.size k ∧ k < w8.heap.size) 2 KRef.R W (.slice A10 N.length c11) N ∧ w8.heap.size ≤ W.heap.size) ?_ ?_
 ·
  have O20 : Only NoF w w8 := (Only.trans' o6 o9)
  have r21 := (ow_k r5 o9)
  exact ⟨_, 0, [], A3, 0, rfl, Z.cut ⟨rfl, rfl, rfl, trivial⟩, Nat.zero_le _, rfl, (fun k h hk => absurd (hq19 k h) (Nat.not_lt.2 hk.1)), O20, r21, hS18, (Nat.le_refl _)⟩
 clear Z az
 rintro mz az w22 ⟨k, O, Ao, co, hm24, Z, hk, hO, hsep, o23, rO, hNs, hge8⟩
 have hOk0 : ∀ r ∈ O, KRef.ok r := by rw [hO]; exact wa_ok (fun r hr => ok13 r (List.mem_of_mem_take hr)) (fun r hr => hbn r (List.mem_of_mem_take hr))
 have hOl : O.length ≤ N.length := by rw [hO, wa_len, List.length_take]; omega
 refine wp_seq_k fun _ k25 => ?_
 refine wp_seq_k fun _ k26 => wp_region_lit ?_
 refine L (r_mv Z rfl) Z rfl ?_; clear Z az; intro az Z
 refine L (r_mv Z rfl) Z rfl ?_; clear Z az; intro az Z
 refine L (r_lenL Tryd.underlying36 Z rfl) Z rfl ?_; clear Z az; intro az Z
 refine L (r_ltI Z rfl rfl) Z rfl ?_; clear Z az; intro az Z
 refine k26 _ _ ?_
 refine br Z rfl (fun hc27 => ?_) (fun hc27 => ?_)
 ·
  have p28 := of_decide_eq_true hc27
  refine wp_skip ?_
  refine k25 _ _ (wp_seq_k fun _ k29 => ?_)
  refine wp_block ?_
  refine reg_p (ownF (.slice Ao (O.length) co)) 1 [13, 14] (.rd 0 (.rd 1 (.rd 2 (.rd 3 (.rd 4 (.rd 5 (.rd 6 (.rd 7 (.rd 8 (.rd 9 (.rd 10 (.rd 11 (.rd 12 (.ex 13 (.ex 14 (.rd 15 .nil)))))))))))))))) (by kernel_rfl) (by kernel_rfl) (fun _ _ _ _ _ h => h) fun w30 o31 => ?_
  refine Pl.MSP (b := true) (by kernel_rfl) (fun W oW => r_mv Z rfl) Z rfl rfl ?_; clear Z az; intro az Z
  refine Pl.MSP (b := false) (by kernel_rfl) (fun W oW => r_mv Z rfl) Z rfl rfl ?_; clear Z az; intro az Z
  refine Pl.MSP (b := false) (by kernel_rfl) (fun W oW => r_mv Z rfl) Z rfl rfl ?_; clear Z az; intro az Z
  have hk32 : k < (N).length := by omega
  have h38 := (SliceOf.kp hNs o31 (fun _ _ h => h) (fun _ _ _ _ h => h))
  obtain ⟨m33, hm34, ok35, hA36⟩ := Row.el KRef h38 hk32
  have E37 : ∀ W, Only NoF w30 W → CA W (eA A10 2 (k)) [.int .i64 (m33.h), .int .i64 (m33.n)] := Row.ce KRef h38 hm34 rfl
  have hbq := hbn _ (List.mem_of_getElem? hm34)
  refine Pl.MSP (b := false) (by kernel_rfl) (fun W oW => r_ia (k := k) (size := 2) Tryd.underlying36 Tryd.sizeOf40 Z rfl rfl rfl hk32 hA36) Z rfl rfl ?_; clear Z az; intro az Z
  refine Pl.MSP (b := false) (by kernel_rfl) (fun W oW => r_fa (m' := 0) Tryd.underlying40 rfl Tryd.sizeOf3 rfl Z rfl rfl) Z rfl rfl ?_; clear Z az; intro az Z
  refine Pl.MSP (b := false) (by kernel_rfl) (fun W oW => r_ld Tryd.isAgg3 Z rfl ((Row.ce KRef (SliceOf.kp h38 oW (fun k hk h => hsep k h hk) (fun _ _ _ _ h => h)) hm34 rfl _ (Only.refl NoF _)) 0 _ rfl)) Z rfl rfl ?_; clear Z az; intro az Z
  refine Pl.MSP (b := false) (by kernel_rfl) (fun W oW => r_mv Z rfl) Z rfl rfl ?_; clear Z az; intro az Z
  refine Pl.MSP (b := false) (by kernel_rfl) (fun W oW => r_mv Z rfl) Z rfl rfl ?_; clear Z az; intro az Z
  refine Pl.MSP (b := false) (by kernel_rfl) (fun W oW => r_ia (k := k) (size := 2) Tryd.underlying36 Tryd.sizeOf40 Z rfl rfl rfl hk32 hA36) Z rfl rfl ?_; clear Z az; intro az Z
  refine Pl.MSP (b := false) (by kernel_rfl) (fun W oW => r_fa (m' := 1) Tryd.underlying40 rfl Tryd.sizeOf3 rfl Z rfl rfl) Z rfl rfl ?_; clear Z az; intro az Z
  refine Pl.MSP (b := false) (by kernel_rfl) (fun W oW => r_ld Tryd.isAgg3 Z rfl ((Row.ce KRef (SliceOf.kp h38 oW (fun k hk h => hsep k h hk) (fun _ _ _ _ h => h)) hm34 rfl _ (Only.refl NoF _)) 1 _ rfl)) Z rfl rfl ?_; clear Z az; intro az Z
  have i39 : I64 ((m33.n - 1)) := by unfold I64; omega
  refine Pl.MSP (b := false) (by kernel_rfl) (fun W oW => r_subI (r := (m33.n - 1)) Z rfl rfl rfl i39) Z rfl rfl ?_; clear Z az; intro az Z
  refine Pl.MSP (b := true) (by kernel_rfl) (fun W oW => r_bd (v := .agg #[.int .i64 (m33.h), .int .i64 ((m33.n - 1))]) (build_Ref2 _ _) Z rfl) Z rfl rfl ?_; clear Z az; intro az Z
  obtain ⟨A40, w41, hw, hA, r42, o43⟩ := Row.made (w := w30) KRef (e := 40) ([(⟨m33.h, (m33.n - 1)⟩ : RM)] : List RM) (by simp only [List.length_cons, List.length_nil]; unfold maxLen; omega)
  refine Pl.MD (r_bs (z := .agg #[.int .i64 (0), .int .i64 (0)]) (size := 2) (vs := [(0, .agg #[.int .i64 (m33.h), .int .i64 ((m33.n - 1))])]) (cs := List.flatMap KRef.cells [(⟨m33.h, (m33.n - 1)⟩ : RM)]) Tryd.underlying36 Tryd.sizeOf40 Tryd.zeroValue40 rfl (Fr.evalps Z rfl) (by kernel_rfl)) Z rfl rfl ?_ ?_
  · rw [← hw]; exact ⟨fun _ => o43, (Only.trans (Only.refl (ownF (.slice Ao (O.length) co)) w30) o43 (fun _ h => h.elim))⟩
  rw [← hw, ← hA]; clear Z az; intro az Z
  clear hw hA
  have ok44 : ∀ zq ∈ ([(⟨m33.h, (m33.n - 1)⟩ : RM)] : List RM), KRef.ok zq := by intro zq hx; simp only [List.mem_cons, List.not_mem_nil, or_false] at hx; rcases hx with rfl <;> first | exact (show I64 (m33.h) ∧ I64 ((m33.n - 1)) from ⟨ok35.1, by unfold I64; omega⟩)
  have r45 := (ow_k (ow_k rO o31) o43)
  have h46 := SliceOf.pl (Row.own KRef r42 ok44)
  have hb54 : (List.length (O) + List.length ([(⟨m33.h, (m33.n - 1)⟩ : RM)])) * 16 ≤ 140737488355328 := by (simp only [List.length_append, List.length_cons, List.length_nil]; omega)
  have O55 : Only NoF w w41 := (Only.trans' (Only.trans' o23 o31) o43)
  obtain ⟨A47, c48, w49, hr50, r51, o52, al53⟩ := Row.app (P := Tryd.prog) (l := O) (l2 := [(⟨m33.h, (m33.n - 1)⟩ : RM)]) KRef elemRef r45 h46 hb54 (by unfold maxLen; omega) (size_only O55)
  refine Pl.MD (r_app hr50 Z rfl rfl) Z rfl rfl ?_ ?_
  · exact ⟨fun h => absurd h (by decide), (Only.trans (Only.trans (Only.refl (ownF (.slice Ao (O.length) co)) w30) o43 (fun _ h => h.elim)) o52 (fun _ h => .inl h))⟩
  clear Z az; intro az Z
  have ok56 : ∀ zq ∈ (O ++ [(⟨m33.h, (m33.n - 1)⟩ : RM)]), KRef.ok zq := (fun x hx => (List.mem_append.1 hx).elim (hOk0 x) ((Row.oks KRef h46) x))
  have h57 := Row.own KRef r51 ok56
  refine Pl.MSP (b := false) (by kernel_rfl) (fun W oW => r_as Z rfl) Z rfl rfl ?_; clear Z az; intro az Z
  refine wpPl_nil ?_
  refine k29 _ _ ?_
  refine wp_region_lit ?_
  refine L (r_mv Z rfl) Z rfl ?_; clear Z az; intro az Z
  have i58 : I64 (((k : Int) + 1)) := by unfold I64; omega
  refine L (r_addI (r := ((k : Int) + 1)) Z rfl rfl rfl i58) Z rfl ?_; clear Z az; intro az Z
  refine L (r_as Z rfl) Z rfl ?_; clear Z az; intro az Z
  have O59 : Only NoF w22 w41 := (Only.trans' o31 o43)
  have O60 : Only NoF w w49 := (o_sg O55 o52 (Nat.le_refl _) (ownF_ge rO))
  have h61 := (SliceOf.kp (SliceOf.kp h38 o43 (fun _ _ h => h) (fun _ _ _ _ h => h)) o52 (fun k hk h => hsep k h hk) (fun _ _ _ _ h => h))
  have O62 := (Only.trans (Only.trans (Only.trans (Only.refl (fun _ => True) w22) o31 (fun _ _ => .inl trivial)) o43 (fun _ _ => .inl trivial)) o52 (fun _ _ => .inl trivial))
  exact ⟨_, (by omega), k + 1, _, A47, c48, rfl, Z.cut ⟨rfl, rfl, rfl, trivial⟩, (by omega), (by rw [hO, wa_step hm34]), (fun k h hk => (app_Fg al53 h).elim (fun h => hsep k h hk) (fun h => by rw [h] at hk; exact absurd hk.2 (Nat.not_lt.2 (Nat.le_trans hge8 (size_only O59))))), O60, r51, h61, (Nat.le_trans hge8 (size_only O62))⟩
 ·
  have p63 := of_decide_eq_false hc27
  refine wp_exit ?_
  refine th_exit ?_
  refine th_exit ?_
  refine ib_hit ?_
  refine k16 _ _ (wp_seq_k fun _ k64 => wp_region_lit ?_)
  refine L (r_mv Z rfl) Z rfl ?_; clear Z az; intro az Z
  refine L (r_as Z rfl) Z rfl ?_; clear Z az; intro az Z
  refine k64 _ _ ?_
  refine wp_ret ?_
  show bodyPost _ _ _ .ret _ _
  refine ret_of (vs := [.slice Ao (O.length) co]) Z Tryd.results30 ⟨rfl, trivial⟩ ?_
  rw [List.take_of_length_le (by omega)] at hO; rw [← hN]; subst hO; exact ⟨_, _, rfl, ow_low rO (Nat.le_refl _), hOk0, o23⟩
theorem shuf_v_ {w : World} {l : List NM} {A : Option Addr} {c : Nat} (f1 : SliceOf AllB 5 KN0.R w (.slice A l.length c) l) (hl : l.length ≤ 1000000) {Y : List UInt8} {A2 : Option Addr} {c2 : Nat} (f2 : SliceOf AllB 1 KU8.R w (.slice A2 Y.length c2) Y) (hY : Y.length ≤ 1000000) : Calls Tryd.prog 13 [.slice A l.length c, .slice A2 Y.length c2].toArray w (ShufTo l Y.length w) := by
 refine calls_start Tryd.func13 rfl rfl ?_
 intro az Z
 rw [Tryd.ntmps13] at Z
 refine wp_seq_k fun _ k1 => wp_region_lit ?_
 refine L (r_as Z rfl) Z rfl ?_; clear Z az; intro az Z
 refine k1 _ _ (wp_seq_k fun _ k2 => wp_region_lit ?_)
 obtain ⟨A3, w4, hw, hA, r5, o6⟩ := made0 (w := w) (e := 42) (size := 5)
 refine L (r_bs0 Tryd.underlying22 Tryd.sizeOf42) Z rfl ?_
 rw [← hw, ← hA]; clear Z az; intro az Z
 clear hw hA
 refine L (r_mv Z rfl) Z rfl ?_; clear Z az; intro az Z
 have h7 := (SliceOf.kp f1 o6 (fun _ _ h => h) (fun _ _ _ _ h => h))
 have hb15 : (List.length (([] : List NM)) + List.length (l)) * 64 ≤ 140737488355328 := by (simp only [List.length_append, List.length_cons, List.length_nil]; omega)
 obtain ⟨A8, c9, w10, hr11, r12, o13, al14⟩ := Row.app (P := Tryd.prog) (l := ([] : List NM)) (l2 := l) KN0 elemNote r5 h7 hb15 (by unfold maxLen; omega) (size_only o6)
 simp only [List.nil_append, List.append_nil] at hr11 r12 al14
 refine L (r_app hr11 Z rfl rfl) Z rfl ?_; clear Z az; intro az Z
 have ok16 : ∀ zq ∈ l, KN0.ok zq := (Row.oks KN0 h7)
 have h17 := Row.own KN0 r12 ok16
 refine L (r_as Z rfl) Z rfl ?_; clear Z az; intro az Z
 refine k2 _ _ (wp_seq_k fun _ k18 => ?_)
 refine wp_seq_k fun _ k19 => wp_region_lit ?_
 refine L (r_as Z rfl) Z rfl ?_; clear Z az; intro az Z
 refine k19 _ _ ?_
 refine wp_block ?_
 refine wp_loop_m (fun mz az W => ∃ k : Nat, ∃ O : List NM, ∃ Ao : Option Addr, ∃ co : Nat, mz = Y.length - k ∧ Fr 65 [(1, .slice A2 (Y.length) c2), (6, .int .i64 ((k : Int))), (5, .slice Ao (O.length) co)] az ∧ (k ≤ Y.length) ∧ (∀ x, x ∈ O ↔ x ∈ l) ∧ (O.length ≤ l.length + k) ∧ Only NoF w W ∧ W.ownsRow w.heap.size 42 5 (.slice Ao O.length co) O.length (List.flatMap KN0.cells O)) ?_ ?_
 ·
  have O20 : Only NoF w w10 := (o_sg o6 o13 (Nat.le_refl _) (ownF_ge r5))
  exact ⟨_, 0, l, A8, c9, rfl, Z.cut ⟨rfl, rfl, rfl, trivial⟩, Nat.zero_le _, (fun x => Iff.rfl), (by omega), O20, r12⟩
 clear Z az
 rintro mz az w21 ⟨k, O, Ao, co, hm23, Z, hk, hM, hOl, o22, rO⟩
 have hOo : O.length = O.length := rfl
 refine wp_seq_k fun _ k24 => ?_
 refine wp_seq_k fun _ k25 => wp_region_lit ?_
 refine L (r_mv Z rfl) Z rfl ?_; clear Z az; intro az Z
 have i26 : I64 (((k : Int) + 1)) := by unfold I64; omega
 refine L (r_addI (r := ((k : Int) + 1)) Z rfl rfl rfl i26) Z rfl ?_; clear Z az; intro az Z
 refine L (r_mv Z rfl) Z rfl ?_; clear Z az; intro az Z
 refine L (r_lenL Tryd.underlying23 Z rfl) Z rfl ?_; clear Z az; intro az Z
 refine L (r_ltI Z rfl rfl) Z rfl ?_; clear Z az; intro az Z
 refine L (r_mv Z rfl) Z rfl ?_; clear Z az; intro az Z
 refine LG Z rfl rfl gd_t (fun hb => r_mv Z rfl) rfl ?_; clear Z az; intro az Z
 refine LG Z rfl rfl gd_t (fun hb => r_lenL Tryd.underlying22 Z (evg hb rfl)) rfl ?_; clear Z az; intro az Z
 refine LG Z rfl rfl gd_t (fun hb => r_gtI Z (evg hb rfl) rfl) rfl ?_; clear Z az; intro az Z
 refine L (r_and Z rfl rfl rfl) Z rfl ?_; clear Z az; intro az Z
 refine k25 _ _ ?_
 refine br Z rfl (fun hc27 => ?_) (fun hc27 => ?_)
 ·
  have p28 := of_decide_eq_true (and_t hc27).1
  have p29 := of_decide_eq_true (and_t hc27).2
  have hb9 := and_t hc27
  have hb8 := of_decide_eq_true hb9.1; have hb7 := of_decide_eq_true hb9.2
  refine wp_skip ?_
  refine k24 _ _ (wp_seq_k fun _ k30 => ?_)
  refine wp_block ?_
  refine wp_seq_k fun _ k31 => wp_region_lit ?_
  refine L (r_mv Z rfl) Z rfl ?_; clear Z az; intro az Z
  refine L (r_mv Z rfl) Z rfl ?_; clear Z az; intro az Z
  have hk32 : k < (Y).length := by omega
  have h38 := (SliceOf.kp f2 o22 (fun _ _ h => h) (fun _ _ _ _ h => h))
  obtain ⟨m33, hm34, ok35, hA36⟩ := Row.el KU8 h38 hk32
  have E37 : ∀ W, Only NoF w21 W → CA W (eA A2 1 (k)) [.int .u8 (((m33.toNat : Nat) : Int))] := Row.ce KU8 h38 hm34 rfl
  refine L (r_ia (k := k) (size := 1) Tryd.underlying23 Tryd.sizeOf5 Z rfl rfl rfl hk32 hA36) Z rfl ?_; clear Z az; intro az Z
  refine L (r_ld Tryd.isAgg5 Z rfl (CA.first (E37 _ (Only.refl NoF w21)))) Z rfl ?_; clear Z az; intro az Z
  refine L (r_cvJ Tryd.underlying5 Tryd.underlying3 Z rfl (by have := UInt8.toNat_lt m33; omega)) Z rfl ?_; clear Z az; intro az Z
  refine L (r_mv Z rfl) Z rfl ?_; clear Z az; intro az Z
  refine L (r_lenL Tryd.underlying22 Z rfl) Z rfl ?_; clear Z az; intro az Z
  refine L (r_remI Z rfl rfl (by omega)) Z rfl ?_; clear Z az; intro az Z
  refine L (r_as Z rfl) Z rfl ?_; clear Z az; intro az Z
  refine k31 _ _ (wp_seq_k fun _ k39 => wp_region_lit ?_)
  refine L (r_mv Z rfl) Z rfl ?_; clear Z az; intro az Z
  refine L (r_mv Z rfl) Z rfl ?_; clear Z az; intro az Z
  have i40 : I64 (((k : Int) + 1)) := by unfold I64; omega
  refine L (r_addI (r := ((k : Int) + 1)) Z rfl rfl rfl i40) Z rfl ?_; clear Z az; intro az Z
  have hk41 : k + 1 < (Y).length := by omega
  obtain ⟨m42, hm43, ok44, hA45⟩ := Row.el KU8 h38 hk41
  have E46 : ∀ W, Only NoF w21 W → CA W (eA A2 1 (k + 1)) [.int .u8 (((m42.toNat : Nat) : Int))] := Row.ce KU8 h38 hm43 rfl
  refine L (r_ia (k := k + 1) (size := 1) Tryd.underlying23 Tryd.sizeOf5 Z rfl rfl (by omega) hk41 hA45) Z rfl ?_; clear Z az; intro az Z
  refine L (r_ld Tryd.isAgg5 Z rfl (CA.first (E46 _ (Only.refl NoF w21)))) Z rfl ?_; clear Z az; intro az Z
  refine L (r_cvJ Tryd.underlying5 Tryd.underlying3 Z rfl (by have := UInt8.toNat_lt m42; omega)) Z rfl ?_; clear Z az; intro az Z
  refine L (r_mv Z rfl) Z rfl ?_; clear Z az; intro az Z
  refine L (r_lenL Tryd.underlying22 Z rfl) Z rfl ?_; clear Z az; intro az Z
  refine L (r_remI Z rfl rfl (by omega)) Z rfl ?_; clear Z az; intro az Z
  refine L (r_as Z rfl) Z rfl ?_; clear Z az; intro az Z
  refine k39 _ _ (wp_seq_k fun _ k47 => wp_region_lit ?_)
  refine L (r_mv Z rfl) Z rfl ?_; clear Z az; intro az Z
  refine L (r_mv Z rfl) Z rfl ?_; clear Z az; intro az Z
  have h48 := Row.ownN KN0 rO hOo (fun _ _ => trivial)
  obtain ⟨p49, hq50, hl51⟩ := rem_at (b := m33) (n := O.length) (by omega)
  have hk52 : p49 < O.length := by omega
  have hk53 : p49 < (O).length := by omega
  obtain ⟨m54, hm55, ok56, hA57⟩ := Row.el KN0 h48 hk53
  have E58 : ∀ W, Only NoF w21 W → CA W (eA Ao 5 (p49)) [.int .i64 (m54.h), .int .i64 (m54.n), .int .i64 (m54.d), .slice m54.A (m54.l.length) m54.c, strV (m54.s)] := Row.ce KN0 h48 hm55 rfl
  refine L (r_ia (k := p49) (size := 5) Tryd.underlying22 Tryd.sizeOf42 Z rfl rfl hq50 hk52 hA57) Z rfl ?_; clear Z az; intro az Z
  refine L (r_ldA Tryd.isAgg42 Tryd.sizeOf42 Z rfl (E58 _ (Only.refl NoF w21)) rfl) Z rfl ?_; clear Z az; intro az Z
  refine LAl (v := .agg #[.int .i64 (0), .int .i64 (0), .int .i64 (0), .slice none (0) 0, strV ([])]) Tryd.zeroValue42 Z rfl rfl ?_
  clear Z az; intro g59 w60 hg63 hl64 o61 B62 az Z
  refine LSt (cs' := [.int .i64 (m54.h), .int .i64 (m54.n), .int .i64 (m54.d), .slice m54.A (m54.l.length) m54.c, strV (m54.s)]) Tryd.sizeOf42 Z rfl rfl rfl rfl rfl ⟨rfl, rfl, rfl, rfl, rfl, trivial⟩ B62 rfl rfl fun w65 s66 B67 => ?_
  refine k47 _ _ (wp_seq_k fun _ k68 => wp_region_lit ?_)
  refine L (r_mv Z rfl) Z rfl ?_; clear Z az; intro az Z
  refine L (r_mv Z rfl) Z rfl ?_; clear Z az; intro az Z
  refine L (r_mv Z rfl) Z rfl ?_; clear Z az; intro az Z
  refine L (r_mv Z rfl) Z rfl ?_; clear Z az; intro az Z
  have r69 := (ow_only (ow_k rO o61) s66 (fun k hk => lt_F (oneF_ge hg63) (Nat.le_refl _) k (ownF_lt rO k hk)))
  have h70 := Row.ownN KN0 r69 hOo (fun _ _ => trivial)
  obtain ⟨p71, hq72, hl73⟩ := rem_at (b := m42) (n := O.length) (by omega)
  have hk74 : p71 < O.length := by omega
  have hk75 : p71 < (O).length := by omega
  obtain ⟨m76, hm77, ok78, hA79⟩ := Row.el KN0 h70 hk75
  have E80 : ∀ W, Only NoF w65 W → CA W (eA Ao 5 (p71)) [.int .i64 (m76.h), .int .i64 (m76.n), .int .i64 (m76.d), .slice m76.A (m76.l.length) m76.c, strV (m76.s)] := Row.ce KN0 h70 hm77 rfl
  refine L (r_ia (k := p71) (size := 5) Tryd.underlying22 Tryd.sizeOf42 Z rfl rfl hq72 hk74 hA79) Z rfl ?_; clear Z az; intro az Z
  refine L (r_ldA Tryd.isAgg42 Tryd.sizeOf42 Z rfl (E80 _ (Only.refl NoF w65)) rfl) Z rfl ?_; clear Z az; intro az Z
  refine L (r_ia (k := p49) (size := 5) Tryd.underlying22 Tryd.sizeOf42 Z rfl rfl hq50 hk52 hA57) Z rfl ?_; clear Z az; intro az Z
  have hk88 : p49 < O.length := by omega
  refine LStQ (k := p49) (x := m76) KN0 Tryd.sizeOf42 Z rfl rfl rfl rfl r69 hOo hk88 fun w81 o82 r83 => ?_
  obtain ⟨N84, hN85⟩ : ∃ N0, N0 = List.set O p49 m76 := ⟨_, rfl⟩
  rw [← hN85] at r83
  have hl86 : N84.length = O.length := by rw [hN85]; exact List.length_set.trans hOo
  have ok87 : ∀ zq ∈ N84, KN0.ok zq := by rw [hN85]; exact set_ok (fun _ _ => trivial) trivial
  refine k68 _ _ (wp_seq_k fun _ k89 => wp_region_lit ?_)
  refine L (r_mv Z rfl) Z rfl ?_; clear Z az; intro az Z
  refine L (r_mv Z rfl) Z rfl ?_; clear Z az; intro az Z
  have B90 := (Blk.only B67 o82 (fun h => absurd ((ownF_lt rO) _ h) (Nat.not_lt.2 (Nat.le_trans (Nat.le_refl _) hg63))))
  refine L (r_ldA Tryd.isAgg42 Tryd.sizeOf42 Z rfl (Blk.ca B90) rfl) Z rfl ?_; clear Z az; intro az Z
  have h91 := Row.ownN KN0 r83 hl86 ok87
  have hk92 : p71 < O.length := by omega
  have hk93 : p71 < (N84).length := by omega
  obtain ⟨m94, hm95, ok96, hA97⟩ := Row.el KN0 h91 hk93
  have E98 : ∀ W, Only NoF w81 W → CA W (eA Ao 5 (p71)) [.int .i64 (m94.h), .int .i64 (m94.n), .int .i64 (m94.d), .slice m94.A (m94.l.length) m94.c, strV (m94.s)] := Row.ce KN0 h91 hm95 rfl
  refine L (r_ia (k := p71) (size := 5) Tryd.underlying22 Tryd.sizeOf42 Z rfl rfl hq72 hk92 hA97) Z rfl ?_; clear Z az; intro az Z
  have hk106 : p71 < O.length := by omega
  refine LStQ (k := p71) (x := m54) KN0 Tryd.sizeOf42 Z rfl rfl rfl rfl r83 hl86 hk106 fun w99 o100 r101 => ?_
  obtain ⟨N102, hN103⟩ : ∃ N0, N0 = List.set N84 p71 m54 := ⟨_, rfl⟩
  rw [← hN103] at r101
  have hl104 : N102.length = O.length := by rw [hN103]; exact List.length_set.trans hl86
  have ok105 : ∀ zq ∈ N102, KN0.ok zq := by rw [hN103]; exact set_ok ok87 trivial
  refine k89 _ _ (wp_seq_k fun _ k107 => wp_region_lit ?_)
  refine L (r_mv Z rfl) Z rfl ?_; clear Z az; intro az Z
  refine L (r_remI Z rfl rfl (by omega)) Z rfl ?_; clear Z az; intro az Z
  refine L (r_eqI Z rfl rfl) Z rfl ?_; clear Z az; intro az Z
  refine k107 _ _ ?_
  refine br Z rfl (fun hc108 => ?_) (fun hc108 => ?_)
  ·
   have p109 := of_decide_eq_true hc108
   refine wp_region_lit ?_
   refine L (r_mv Z rfl) Z rfl ?_; clear Z az; intro az Z
   have B110 := (Blk.only B90 o100 (fun h => absurd ((ownF_lt rO) _ h) (Nat.not_lt.2 (Nat.le_trans (Nat.le_refl _) hg63))))
   refine L (r_ldA Tryd.isAgg42 Tryd.sizeOf42 Z rfl (Blk.ca B110) rfl) Z rfl ?_; clear Z az; intro az Z
   obtain ⟨A111, w112, hw, hA, r113, o114⟩ := Row.made (w := w99) KN0 (e := 42) ([m54] : List NM) (by simp only [List.length_cons, List.length_nil]; unfold maxLen; omega)
   refine L (r_bs (z := .agg #[.int .i64 (0), .int .i64 (0), .int .i64 (0), .slice none (0) 0, strV ([])]) (size := 5) (vs := [(0, .agg #[.int .i64 (m54.h), .int .i64 (m54.n), .int .i64 (m54.d), .slice m54.A (m54.l.length) m54.c, strV (m54.s)])]) (cs := List.flatMap KN0.cells [m54]) Tryd.underlying22 Tryd.sizeOf42 Tryd.zeroValue42 rfl (Fr.evalps Z rfl) (by kernel_rfl)) Z rfl ?_
   rw [← hw, ← hA]; clear Z az; intro az Z
   clear hw hA
   have ok115 : ∀ zq ∈ ([m54] : List NM), KN0.ok zq := by intro zq hx; simp only [List.mem_cons, List.not_mem_nil, or_false] at hx; rcases hx with rfl <;> first | exact trivial
   have r116 := (ow_k r101 o114)
   have h117 := SliceOf.pl (Row.own KN0 r113 ok115)
   have hb125 : (List.length (N102) + List.length ([m54])) * 64 ≤ 140737488355328 := by (simp only [List.length_append, List.length_cons, List.length_nil]; omega)
   have O126 : Only NoF w w112 := (Only.trans' (o_sg (o_sg (o_sg (Only.trans' o22 o61) s66 (size_only o22) (oneF_ge hg63)) o82 (Nat.le_refl _) (ownF_ge rO)) o100 (Nat.le_refl _) (ownF_ge rO)) o114)
   obtain ⟨A118, c119, w120, hr121, r122, o123, al124⟩ := Row.app (P := Tryd.prog) (l := N102) (l2 := [m54]) KN0 elemNote (show w112.ownsRow w.heap.size 42 5 (.slice Ao (O.length) co) (List.length N102) (List.flatMap KN0.cells N102) by rw [hl104]; exact r116) h117 hb125 (by unfold maxLen; omega) (size_only O126)
   refine L (r_app hr121 Z rfl rfl) Z rfl ?_; clear Z az; intro az Z
   have ok127 : ∀ zq ∈ (N102 ++ [m54]), KN0.ok zq := (fun x hx => (List.mem_append.1 hx).elim (ok105 x) ((Row.oks KN0 h117) x))
   have h128 := Row.own KN0 r122 ok127
   refine L (r_as Z rfl) Z rfl ?_; clear Z az; intro az Z
   refine k30 _ _ ?_
   refine wp_region_lit ?_
   refine L (r_mv Z rfl) Z rfl ?_; clear Z az; intro az Z
   have i129 : I64 (((k : Int) + 1)) := by unfold I64; omega
   refine L (r_addI (r := ((k : Int) + 1)) Z rfl rfl rfl i129) Z rfl ?_; clear Z az; intro az Z
   refine L (r_as Z rfl) Z rfl ?_; clear Z az; intro az Z
   have O130 : Only NoF w w120 := (o_sg O126 o123 (Nat.le_refl _) (ownF_ge rO))
   exact ⟨_, (by omega), k + 1, _, A118, c119, rfl, Z.cut ⟨rfl, rfl, rfl, trivial⟩, (by omega), (fun x => app_mem (fun x => (by rw [hN103, hN85]; exact (swap_mem hm55 hm77 x).trans (hM x))) ((hM _).1 (List.mem_of_getElem? hm55)) x), (by rw [List.length_append, hl104]; simp only [List.length_cons, List.length_nil]; omega), O130, r122⟩
  ·
   have p131 := of_decide_eq_false hc108
   refine wp_skip ?_
   refine k30 _ _ ?_
   refine wp_region_lit ?_
   refine L (r_mv Z rfl) Z rfl ?_; clear Z az; intro az Z
   have i132 : I64 (((k : Int) + 1)) := by unfold I64; omega
   refine L (r_addI (r := ((k : Int) + 1)) Z rfl rfl rfl i132) Z rfl ?_; clear Z az; intro az Z
   refine L (r_as Z rfl) Z rfl ?_; clear Z az; intro az Z
   have hrr9 : w99.ownsRow w.heap.size 42 5 (.slice Ao (List.length N102) co) (List.length N102) (List.flatMap KN0.cells N102) := by rw [hl104]; exact r101
   rw [← hl104] at Z
   have O133 : Only NoF w w99 := (o_sg (o_sg (o_sg (Only.trans' o22 o61) s66 (size_only o22) (oneF_ge hg63)) o82 (Nat.le_refl _) (ownF_ge rO)) o100 (Nat.le_refl _) (ownF_ge rO))
   exact ⟨_, (by omega), k + 1, N102, Ao, co, rfl, Z.cut ⟨rfl, rfl, rfl, trivial⟩, (by omega), (fun x => (by rw [hN103, hN85]; exact (swap_mem hm55 hm77 x).trans (hM x))), (by rw [hl104]; omega), O133, hrr9⟩
 ·
  have d134 := hc27
  refine wp_exit ?_
  refine th_exit ?_
  refine th_exit ?_
  refine ib_hit ?_
  refine k18 _ _ (wp_seq_k fun _ k135 => wp_region_lit ?_)
  refine L (r_mv Z rfl) Z rfl ?_; clear Z az; intro az Z
  refine L (r_as Z rfl) Z rfl ?_; clear Z az; intro az Z
  refine k135 _ _ ?_
  refine wp_ret ?_
  show bodyPost _ _ _ .ret _ _
  refine ret_of (vs := [.slice Ao (O.length) co]) Z Tryd.results13 ⟨rfl, trivial⟩ ?_
  exact ⟨_, _, O, rfl, hM, by omega, rO, o22⟩
end Go.Proofs.YtdcbjedkddgfkaaDoor
