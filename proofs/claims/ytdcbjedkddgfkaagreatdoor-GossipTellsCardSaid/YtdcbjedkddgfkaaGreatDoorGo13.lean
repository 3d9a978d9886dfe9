/-
  Gossip: Missing, walked. Condition: the listed variables; at most 1,000,000 notes.
-/
import Derived.Test.YtdcbjedkddgfkaaGreatDoorGD
import Derived.Test.YtdcbjedkddgfkaaGreatDoorRst
namespace Go.Proofs.YtdcbjedkddgfkaaGreatDoor
set_option linter.unusedVariables false
set_option linter.unusedSimpArgs false
set_option linter.unusedSectionVars false
open Go.RowKit
/-! ### rows of 400 numbers -/
def tabN (f : Nat → Int) : List Int := (List.range 400).map f
theorem tab_get {f : Nat → Int} {q : Nat} (h : q < 400) : (tabN f)[q]? = some (f q) := by
 unfold tabN
 rw [List.getElem?_map, List.getElem?_range h]; rfl
theorem tab_at {f : Nat → Int} {q : Nat} {m : Int} (h : q < 400) (e : (tabN f)[q]? = some m) : m = f q := by
 rw [tab_get h] at e; injection e with e; exact e.symm
theorem tab_set {f g : Nat → Int} {q : Nat} {v : Int} (h1 : g q = v) (h2 : ∀ p, p ≠ q → g p = f p) : (tabN f).set q v = tabN g := by
 apply List.ext_getElem?
 intro i
 have hl : (tabN f).length = 400 := by unfold tabN; simp
 have hl2 : (tabN g).length = 400 := by unfold tabN; simp
 rcases Nat.lt_or_ge i 400 with hi | hi
 · rw [List.getElem?_set]
   split
   · rename_i e; subst e; rw [if_pos (by omega), tab_get hi, h1]
   · rename_i e; rw [tab_get hi, tab_get hi, h2 i (fun e2 => e e2.symm)]
 · rw [List.getElem?_eq_none (by rw [List.length_set]; omega), List.getElem?_eq_none (by omega)]
theorem tab_zero : List.replicate 400 (0 : Int) = tabN fun _ => 0 := by
 unfold tabN
 rw [List.map_const', List.length_range]
/-! ### Missing, in plain Lean -/
def nextS (h : Nat) (a : Int) (x : NM) : Int := if x.h = (h : Int) ∧ x.n = a then a + 1 else a
def nextN (J : List NM) (h : Nat) : Int := J.foldl (nextS h) 0
def wantR (h : Nat) (a : Int) (r : RM) : Int := if r.h = (h : Int) then max a (r.n + 1) else a
def wantH (h : Nat) (a : Int) (x : NM) : Int := if x.h = (h : Int) then max a x.n else a
def wantS (h : Nat) (a : Int) (x : NM) : Int := x.l.foldl (wantR h) (wantH h a x)
def needN (J : List NM) (h : Nat) : Int := J.foldl (wantS h) 0
def missN (J : List NM) : List RM := ((List.range 400).filter fun h => decide (nextN J h < needN J h)).map fun (h : Nat) => (⟨(h : Int), nextN J h⟩ : RM)
theorem next_map (J : List NM) (h : Nat) : nextN (J.map ns) h = nextN J h := by unfold nextN; rw [List.foldl_map]; rfl
theorem need_map (J : List NM) (h : Nat) : needN (J.map ns) h = needN J h := by unfold needN; rw [List.foldl_map]; rfl
theorem miss_map (J : List NM) : missN (J.map ns) = missN J := by
 unfold missN
 rw [funext (next_map J), funext (need_map J)]
section
variable {J : List NM} {k h q : Nat} {m x : NM} {i : Nat} {r : RM} {N D : List Int} {u v a : Int}
theorem right_bnd (h : right x = true) : 0 ≤ x.h ∧ x.h < 400 ∧ 0 ≤ x.n ∧ x.n < 400 := by
 unfold right headBad kn bel at h
 simp only [Bool.and_eq_true, Bool.not_eq_true', Bool.or_eq_false_iff, Bool.not_eq_false', decide_eq_true_eq] at h
 omega
theorem ref_bnd (h : right x = true) (hr : x.l[i]? = some r) : 0 ≤ r.h ∧ r.h < 400 ∧ 0 ≤ r.n ∧ r.n < 400 := by
 have h1 := (refs_get _ _ (right_refs h) i r hr).1
 unfold kn bel at h1
 simp only [Bool.and_eq_true, decide_eq_true_eq] at h1
 omega
theorem next_step (hm : J[k]? = some m) : nextN (J.take (k + 1)) h = nextS h (nextN (J.take k) h) m := by
 unfold nextN
 rw [take_succ_get hm, List.foldl_append]; rfl
theorem need_step (hm : J[k]? = some m) : needN (J.take (k + 1)) h = wantS h (needN (J.take k) h) m := by
 unfold needN
 rw [take_succ_get hm, List.foldl_append]; rfl
/-- the loop's row of next numbers, behind a note -/
theorem nx_yes (hm : J[k]? = some m) (hq : m.h = (q : Int)) (hl : q < 400) (hN : N = tabN (nextN (J.take k))) (hu : N[q]? = some u) (e : m.n = u) : N.set q (u + 1) = tabN (nextN (J.take (k + 1))) := by
 subst hN
 have hu' := tab_at hl hu
 refine tab_set ?_ fun p hp => ?_
 · rw [next_step hm]; unfold nextS; rw [if_pos ⟨hq, by rw [e, hu']⟩, ← hu']
 · rw [next_step hm]; unfold nextS; rw [if_neg (fun h => hp (by have := h.1; omega))]
theorem nx_no (hm : J[k]? = some m) (hq : m.h = (q : Int)) (hl : q < 400) (hN : N = tabN (nextN (J.take k))) (hu : N[q]? = some u) (e : ¬ m.n = u) : N = tabN (nextN (J.take (k + 1))) := by
 subst hN
 have hu' := tab_at hl hu
 refine congrArg tabN (funext fun p => ?_)
 rw [next_step hm]; unfold nextS
 split
 · rename_i h2
   have : p = q := by have := h2.1; omega
   subst this
   exact absurd (h2.2.trans hu'.symm) e
 · rfl
/-- the row of numbers that are needed: behind the note's own number -/
theorem nd_own (hq : m.h = (q : Int)) (hl : q < 400) (hD : D = tabN (needN (J.take k))) (hu : D[q]? = some u) : D.set q (max u m.n) = tabN fun h => (m.l.take 0).foldl (wantR h) (wantH h (needN (J.take k) h) m) := by
 subst hD
 have hu' := tab_at hl hu
 refine tab_set ?_ fun p hp => ?_
 · show wantH q _ m = _
   unfold wantH; rw [if_pos hq, hu']
 · show wantH p _ m = _
   unfold wantH; rw [if_neg (fun h => hp (by omega))]
theorem nd_ref {f : Nat → Int} (hr : m.l[i]? = some r) (hq : r.h = (q : Int)) (hl : q < 400) (hD : D = tabN fun h => (m.l.take i).foldl (wantR h) (f h)) (hu : D[q]? = some u) : D.set q (max u (r.n + 1)) = tabN fun h => (m.l.take (i + 1)).foldl (wantR h) (f h) := by
 subst hD
 have hu' := tab_at hl hu
 refine tab_set ?_ fun p hp => ?_
 · rw [take_succ_get hr, List.foldl_append]
   show wantR q _ r = _
   unfold wantR; rw [if_pos hq, hu']; rfl
 · rw [take_succ_get hr, List.foldl_append]
   show wantR p _ r = _
   unfold wantR; rw [if_neg (fun h => hp (by omega))]
theorem nd_end (hm : J[k]? = some m) (hi : i = m.l.length) (hD : D = tabN fun h => (m.l.take i).foldl (wantR h) (wantH h (needN (J.take k) h) m)) : D = tabN (needN (J.take (k + 1))) := by
 subst hi
 rw [hD, List.take_length]
 exact congrArg tabN (funext fun p => (need_step hm).symm)
theorem bnd_set {l : List Int} (h : ∀ z ∈ l, 0 ≤ z ∧ z ≤ 400) (hv : 0 ≤ v ∧ v ≤ 400) : ∀ z ∈ l.set q v, 0 ≤ z ∧ z ≤ 400 := set_ok h hv
theorem bnd_ok {l : List Int} (h : ∀ z ∈ l, 0 ≤ z ∧ z ≤ 400) : ∀ z ∈ l, KInt.ok z := fun z hz => by
 have := h z hz
 show I64 z
 unfold I64; omega
/-- the list, gathered -/
def missL (N D : List Int) (k : Nat) : List RM := ((List.range k).filter fun h => decide (N.getD h 0 < D.getD h 0)).map fun (h : Nat) => (⟨(h : Int), N.getD h 0⟩ : RM)
theorem ms_yes (hN : N[k]? = some u) (hD : D[k]? = some v) (e : decide (u < v) = true) : missL N D (k + 1) = missL N D k ++ [⟨(k : Int), u⟩] := by
 unfold missL
 have e1 : N.getD k 0 = u := by rw [List.getD_eq_getElem?_getD, hN]; rfl
 have e2 : D.getD k 0 = v := by rw [List.getD_eq_getElem?_getD, hD]; rfl
 rw [List.range_succ, List.filter_append, List.map_append]
 congr 1
 simp only [List.filter_cons, List.filter_nil, e1, e2, e, if_true, List.map_cons, List.map_nil]
theorem ms_no (hN : N[k]? = some u) (hD : D[k]? = some v) (e : decide (u < v) = false) : missL N D (k + 1) = missL N D k := by
 unfold missL
 have e1 : N.getD k 0 = u := by rw [List.getD_eq_getElem?_getD, hN]; rfl
 have e2 : D.getD k 0 = v := by rw [List.getD_eq_getElem?_getD, hD]; rfl
 rw [List.range_succ, List.filter_append, List.map_append]
 simp only [List.filter_cons, List.filter_nil, e1, e2, e, Bool.false_eq_true, if_false, List.map_nil, List.append_nil]
theorem ms_len : (missL N D k).length ≤ k := by
 unfold missL
 rw [List.length_map]
 have := List.length_filter_le (fun h => decide (N.getD h 0 < D.getD h 0)) (List.range k)
 rwa [List.length_range] at this
theorem ms_ok (hN : ∀ z ∈ N, 0 ≤ z ∧ z ≤ 400) (hl : N.length = 400) (hk : k ≤ 400) : ∀ z ∈ missL N D k, KRef.ok z := by
 intro z hz
 obtain ⟨h, hh, rfl⟩ := List.mem_map.1 hz
 have h1 := List.mem_range.1 (List.mem_filter.1 hh).1
 have h2 := hN (N.getD h 0) (by rw [List.getD_eq_getElem?_getD, List.getElem?_eq_getElem (by omega)]; exact List.getElem_mem _)
 show I64 _ ∧ I64 _
 unfold I64; constructor <;> simp only <;> omega
theorem ms_all (hN : N = tabN (nextN J)) (hD : D = tabN (needN J)) : missL N D 400 = missN J := by
 subst hN hD
 unfold missL missN
 have g : ∀ (f : Nat → Int) (h : Nat), h < 400 → (tabN f).getD h 0 = f h := fun f h hh => by rw [List.getD_eq_getElem?_getD, tab_get hh]; rfl
 rw [List.filter_congr (q := fun h => decide (nextN J h < needN J h)) fun h hh => by rw [g _ h (List.mem_range.1 hh), g _ h (List.mem_range.1 hh)]]
 refine List.map_congr_left fun h hh => ?_
 rw [g _ h (List.mem_range.1 (List.mem_filter.1 hh).1)]
theorem tab_first : List.replicate 400 (0 : Int) = tabN (nextN (J.take 0)) := tab_zero
theorem tab_first2 : List.replicate 400 (0 : Int) = tabN (needN (J.take 0)) := tab_zero
theorem zero_bnd {l : List Int} (h : l = List.replicate 400 0) : ∀ z ∈ l, 0 ≤ z ∧ z ≤ 400 := by
 subst h; intro z hz; rw [List.eq_of_mem_replicate hz]; omega
end
set_option maxRecDepth 20000 in
set_option maxHeartbeats 4000000 in
theorem Missing_v_ {w : World} (hG : Gr w) {l : List NM} {A : Option Addr} {c : Nat} (t : NtV w (.slice A l.length c) l) (hl : l.length ≤ 1000000) : Calls Tryz.prog 22 [.slice A l.length c].toArray w (ROut (missN (joinN l)) w) := by
 refine calls_start Tryz.func22 rfl rfl ?_
 intro az Z
 rw [Tryz.ntmps22] at Z
 refine wp_seq_k fun _ k1 => wp_region_lit ?_
 refine L (r_as Z rfl) Z rfl ?_; clear Z az; intro az Z
 refine k1 _ _ (wp_seq_k fun _ k2 => ?_)
 refine reg_p NoF 2 [0, 1] (.fork 0 (.rd 2 (.ex 1 (.rd 3 .nil))) 1 (.ex 0 (.rd 2 (.rd 3 .nil)))) (by kernel_rfl) (by kernel_rfl) (fun _ _ _ _ _ h => h) fun w3 o4 => ?_
 refine wpPl_fork ?_ ?_
 ·
  obtain ⟨A5, w6, hw, hA, r7, o8⟩ := Row.madeN (w := w3) KInt (e := 3) (l := List.replicate 400 (0 : Int)) (m := 400) List.length_replicate (by unfold maxLen; omega)
  refine Pl.MD (r_mk1 (m := 400) (x := (0 : Int)) (v := .int .i64 0) (b := 8) KInt Tryz.underlying30 (by kernel_rfl) (by decide) rfl rfl rfl Z rfl rfl (by decide)) Z rfl rfl ?_ ?_
  · rw [← hw]; exact ⟨fun _ => o8, (Only.trans (Only.refl NoF w3) o8 (fun _ h => h.elim))⟩
  rw [← hw, ← hA]; clear Z az; intro az Z
  clear hw hA
  obtain ⟨N9, hN10⟩ : ∃ N0 : List Int, N0 = List.replicate 400 (0 : Int) := ⟨_, rfl⟩
  rw [← hN10] at r7
  have hl11 : N9.length = 400 := by rw [hN10, List.length_replicate]
  have ok12 : ∀ zq ∈ N9, KInt.ok zq := by rw [hN10]; intro zq hq; rw [List.eq_of_mem_replicate hq]; exact (by show I64 0; unfold I64; omega)
  refine Pl.MSP (b := true) (by kernel_rfl) (fun W oW => r_as Z rfl) Z rfl rfl ?_; clear Z az; intro az Z
  obtain ⟨A13, w14, hw, hA, r15, o16⟩ := Row.madeN (w := w6) KInt (e := 3) (l := List.replicate 400 (0 : Int)) (m := 400) List.length_replicate (by unfold maxLen; omega)
  refine Pl.MD (r_mk1 (m := 400) (x := (0 : Int)) (v := .int .i64 0) (b := 8) KInt Tryz.underlying30 (by kernel_rfl) (by decide) rfl rfl rfl Z rfl rfl (by decide)) Z rfl rfl ?_ ?_
  · rw [← hw]; exact ⟨fun _ => (Only.trans' o8 o16), (Only.trans (Only.trans (Only.refl NoF w3) o8 (fun _ h => h.elim)) o16 (fun _ h => h.elim))⟩
  rw [← hw, ← hA]; clear Z az; intro az Z
  clear hw hA
  obtain ⟨N17, hN18⟩ : ∃ N0 : List Int, N0 = List.replicate 400 (0 : Int) := ⟨_, rfl⟩
  rw [← hN18] at r15
  have hl19 : N17.length = 400 := by rw [hN18, List.length_replicate]
  have ok20 : ∀ zq ∈ N17, KInt.ok zq := by rw [hN18]; intro zq hq; rw [List.eq_of_mem_replicate hq]; exact (by show I64 0; unfold I64; omega)
  refine Pl.MSP (b := true) (by kernel_rfl) (fun W oW => r_as Z rfl) Z rfl rfl ?_; clear Z az; intro az Z
  refine wpPl_nil ?_
  refine k2 _ _ (wp_seq_k fun _ k21 => ?_)
  refine wp_seq_k fun _ k22 => wp_region_lit ?_
  refine L (r_mv Z rfl) Z rfl ?_; clear Z az; intro az Z
  have O32 : Only NoF w w14 := (Only.trans' (Only.trans' o4 o8) o16)
  have G31 := Gr.k hG O32
  refine LC Z rfl rfl Tryz.call10 (Join1_v G31 (NtV.k t O32) hl) rfl ?_
  rintro e w23 ⟨A25, c26, L27, rfl, hL28, hS29, hN30, o24⟩; refine ⟨_, rfl, ?_⟩
  have hl33 : L27.length ≤ 1000000 := Nat.le_trans (joinN_len hL28) hl
  have hrt := joined_right hL28
  clear Z az; intro az Z
  refine L (r_lenL Tryz.underlying22 Z rfl) Z rfl ?_; clear Z az; intro az Z
  refine L (r_mv Z rfl) Z rfl ?_; clear Z az; intro az Z
  refine k22 _ _ ?_
  refine wp_block ?_
  refine wp_loop_m (fun mz az W => ∃ k : Nat, ∃ N : List Int, ∃ D : List Int, mz = L27.length - k ∧ Fr 91 [(3, .slice A5 (400) 400), (4, .slice A13 (400) 400), (15, .slice A25 (L27.length) c26), (16, .int .i64 (((L27.length : Nat) : Int))), (17, .int .i64 ((k : Int)))] az ∧ (k ≤ L27.length) ∧ (N = tabN (nextN (L27.take k))) ∧ (D = tabN (needN (L27.take k))) ∧ (N.length = 400) ∧ (D.length = 400) ∧ (∀ z ∈ N, 0 ≤ z ∧ z ≤ 400) ∧ (∀ z ∈ D, 0 ≤ z ∧ z ≤ 400) ∧ Only (orF (ownF (.slice A5 (400) 400)) (ownF (.slice A13 (400) 400))) w23 W ∧ W.ownsRow w3.heap.size 3 1 (.slice A5 (400) 400) 400 (List.flatMap KInt.cells N) ∧ W.ownsRow w6.heap.size 3 1 (.slice A13 (400) 400) 400 (List.flatMap KInt.cells D)) ?_ ?_
  ·
   have r34 := (ow_k (ow_k r7 o16) o24)
   have r35 := (ow_k r15 o24)
   exact ⟨_, 0, N9, N17, rfl, Z.cut ⟨rfl, rfl, rfl, rfl, rfl, trivial⟩, Nat.zero_le _, (hN10.trans tab_first), (hN18.trans tab_first2), hl11, hl19, (zero_bnd hN10), (zero_bnd hN18), (Only.refl (orF (ownF (.slice A5 (400) 400)) (ownF (.slice A13 (400) 400))) w23), r34, r35⟩
  clear Z az
  rintro mz az w36 ⟨k, N, D, hm38, Z, hk, hN, hD, hNl, hDl, bN, bD, o37, rN, rD⟩
  refine wp_seq_k fun _ k39 => wp_region_lit ?_
  refine L (r_ltI Z rfl rfl) Z rfl ?_; clear Z az; intro az Z
  refine k39 _ _ (wp_seq_k fun _ k40 => ?_)
  refine br Z rfl (fun hc41 => ?_) (fun hc41 => ?_)
  ·
   have p42 := of_decide_eq_true hc41
   refine wp_skip ?_
   refine k40 _ _ (wp_seq_k fun _ k43 => ?_)
   refine wp_block ?_
   refine wp_seq_k fun _ k44 => wp_region_lit ?_
   have hk45 : k < (L27).length := by omega
   have h51 := (SliceOf.kp hS29 o37 (ge_F (fun k h => (Or.elim h (fun h => (Nat.lt_of_lt_of_le ((ownF_lt r7) k h) (size_only o16))) (fun h => (Nat.lt_of_lt_of_le ((ownF_lt r15) k h) (Nat.le_refl _))))) (Nat.le_refl _)) (fun _ _ _ _ h => h))
   obtain ⟨m46, hm47, ok48, hA49⟩ := Row.el KN0 h51 hk45
   have E50 : ∀ W, Only NoF w36 W → CA W (eA A25 5 (k)) [.int .i64 (m46.h), .int .i64 (m46.n), .int .i64 (m46.d), .slice m46.A (m46.l.length) m46.c, strV (m46.s)] := Row.ce KN0 h51 hm47 rfl
   have hrb := right_bnd (hrt _ (List.mem_of_getElem? hm47))
   obtain ⟨q52, hq53⟩ : ∃ q : Nat, m46.h = (q : Int) := ⟨m46.h.toNat, by omega⟩
   have h55 := (SliceOf.kp (hN30 _ (List.mem_of_getElem? hm47)).2.2.2.1 o37 (ge_F (fun k h => (Or.elim h (fun h => (Nat.lt_of_lt_of_le ((ownF_lt r7) k h) (size_only o16))) (fun h => (Nat.lt_of_lt_of_le ((ownF_lt r15) k h) (Nat.le_refl _))))) (Nat.le_refl _)) (fun _ _ _ _ h => h))
   have h56 := SliceOf.pl h55
   have hl54 := SliceOf.len h56; unfold maxLen at hl54
   refine L (r_ia (k := k) (size := 5) Tryz.underlying22 Tryz.sizeOf43 Z rfl rfl rfl hk45 hA49) Z rfl ?_; clear Z az; intro az Z
   refine L (r_ldA Tryz.isAgg43 Tryz.sizeOf43 Z rfl (E50 _ (Only.refl NoF w36)) rfl) Z rfl ?_; clear Z az; intro az Z
   refine LAl (v := .agg #[.int .i64 (0), .int .i64 (0), .int .i64 (0), .slice none (0) 0, strV ([])]) Tryz.zeroValue43 Z rfl rfl ?_
   clear Z az; intro g57 w58 hg61 hl62 o59 B60 az Z
   refine LSt (cs' := [.int .i64 (m46.h), .int .i64 (m46.n), .int .i64 (m46.d), .slice m46.A (m46.l.length) m46.c, strV (m46.s)]) Tryz.sizeOf43 Z rfl rfl rfl rfl rfl ⟨rfl, rfl, rfl, rfl, rfl, trivial⟩ B60 rfl rfl fun w63 s64 B65 => ?_
   refine k44 _ _ (wp_seq_k fun _ k66 => ?_)
   refine wp_seq_k fun _ k67 => ?_
   refine reg_q [(true, 0), (true, 1), (true, 2), (true, 3), (true, 4), (true, 5), (true, 6), (true, 7)] (by kernel_rfl) (by kernel_rfl) (fun _ _ _ _ _ h => h) fun w68 o69 => ?_
   refine M (r_fa (m' := 1) Tryz.underlying43 rfl Tryz.sizeOf3 rfl Z rfl rfl) Z rfl rfl ?_; clear Z az; intro az Z
   have B70 := (Blk.k B65 o69)
   refine M (r_ld Tryz.isAgg3 Z rfl ((Blk.ca B70) 1 _ rfl)) Z rfl rfl ?_; clear Z az; intro az Z
   refine M (r_mv Z rfl) Z rfl rfl ?_; clear Z az; intro az Z
   refine M (r_fa (m' := 0) Tryz.underlying43 rfl Tryz.sizeOf3 rfl Z rfl rfl) Z rfl rfl ?_; clear Z az; intro az Z
   refine M (r_ld Tryz.isAgg3 Z rfl ((Blk.ca B70) 0 _ rfl)) Z rfl rfl ?_; clear Z az; intro az Z
   have O71 := (Only.trans (Only.trans (Only.trans (Only.refl (fun _ => True) w6) o16 (fun _ _ => .inl trivial)) o24 (fun _ _ => .inl trivial)) o37 (fun _ _ => .inl trivial))
   have r72 := (ow_k (ow_only (ow_k rN o59) s64 (fun k hk => lt_F (oneF_ge hg61) (size_only O71) k (ownF_lt r7 k hk))) o69)
   have h73 := Row.ownN KInt r72 hNl (bnd_ok bN)
   have hk74 : q52 < 400 := by omega
   have hk75 : q52 < (N).length := by omega
   obtain ⟨m76, hm77, ok78, hA79⟩ := Row.el KInt h73 hk75
   have E80 : ∀ W, Only NoF w68 W → CA W (eA A5 1 (q52)) [.int .i64 (m76)] := Row.ce KInt h73 hm77 rfl
   have hb81 := bN m76 (List.mem_of_getElem? hm77)
   refine M (r_ia (k := q52) (size := 1) Tryz.underlying30 Tryz.sizeOf3 Z rfl rfl hq53 hk74 hA79) Z rfl rfl ?_; clear Z az; intro az Z
   refine M (r_ld Tryz.isAgg3 Z rfl (CA.first (E80 _ (Only.refl NoF w68)))) Z rfl rfl ?_; clear Z az; intro az Z
   refine M (r_eqI Z rfl rfl) Z rfl rfl ?_; clear Z az; intro az Z
   refine wpMix_nil ?_
   refine k67 _ _ ?_
   refine br Z rfl (fun hc82 => ?_) (fun hc82 => ?_)
   ·
    have p83 := of_decide_eq_true hc82
    refine wp_region_lit ?_
    refine L (r_mv Z rfl) Z rfl ?_; clear Z az; intro az Z
    refine L (r_fa (m' := 0) Tryz.underlying43 rfl Tryz.sizeOf3 rfl Z rfl rfl) Z rfl ?_; clear Z az; intro az Z
    refine L (r_ld Tryz.isAgg3 Z rfl ((Blk.ca B70) 0 _ rfl)) Z rfl ?_; clear Z az; intro az Z
    refine L (r_ia (k := q52) (size := 1) Tryz.underlying30 Tryz.sizeOf3 Z rfl rfl hq53 hk74 hA79) Z rfl ?_; clear Z az; intro az Z
    refine L (r_ld Tryz.isAgg3 Z rfl (CA.first (E80 _ (Only.refl NoF w68)))) Z rfl ?_; clear Z az; intro az Z
    have i84 : I64 ((m76 + 1)) := by unfold I64; omega
    refine L (r_addI (r := (m76 + 1)) Z rfl rfl rfl i84) Z rfl ?_; clear Z az; intro az Z
    refine L (r_ia (k := q52) (size := 1) Tryz.underlying30 Tryz.sizeOf3 Z rfl rfl hq53 hk74 hA79) Z rfl ?_; clear Z az; intro az Z
    have hk92 : q52 < 400 := by omega
    refine LStQ (k := q52) (x := (m76 + 1)) KInt Tryz.sizeOf3 Z rfl rfl rfl rfl r72 hNl hk92 fun w85 o86 r87 => ?_
    obtain ⟨N88, hN89⟩ : ∃ N0, N0 = List.set N q52 (m76 + 1) := ⟨_, rfl⟩
    rw [← hN89] at r87
    have hl90 : N88.length = 400 := by rw [hN89, List.length_set]; exact hNl
    have ok91 : ∀ zq ∈ N88, KInt.ok zq := by rw [hN89]; exact set_ok (bnd_ok bN) (by show I64 _; unfold I64; omega)
    have bd93 : ∀ z ∈ N88, 0 ≤ z ∧ z ≤ 400 := by rw [hN89]; exact bnd_set bN (by omega)
    refine k66 _ _ (wp_seq_k fun _ k94 => ?_)
    refine reg_p (ownF (.slice A13 (400) 400)) 0 [12] (.rd 0 (.rd 1 (.rd 2 (.rd 3 (.rd 4 (.rd 5 (.rd 6 (.rd 7 (.rd 8 (.rd 9 (.rd 10 (.rd 11 (.ex 12 .nil))))))))))))) (by kernel_rfl) (by kernel_rfl) (fun _ _ _ _ _ h => h) fun w95 o96 => ?_
    have B97 := (Blk.k (Blk.only B70 o86 (fun h => absurd ((ownF_lt r7) _ h) (Nat.not_lt.2 (Nat.le_trans (size_only O71) hg61)))) o96)
    refine Pl.MSP (b := true) (by kernel_rfl) (fun W oW => r_mv Z rfl) Z rfl rfl ?_; clear Z az; intro az Z
    refine Pl.MSP (b := true) (by kernel_rfl) (fun W oW => r_fa (m' := 0) Tryz.underlying43 rfl Tryz.sizeOf3 rfl Z rfl rfl) Z rfl rfl ?_; clear Z az; intro az Z
    refine Pl.MSP (b := true) (by kernel_rfl) (fun W oW => r_ld Tryz.isAgg3 Z rfl ((Blk.ca (Blk.k B97 oW)) 0 _ rfl)) Z rfl rfl ?_; clear Z az; intro az Z
    refine Pl.MSP (b := true) (by kernel_rfl) (fun W oW => r_mv Z rfl) Z rfl rfl ?_; clear Z az; intro az Z
    refine Pl.MSP (b := true) (by kernel_rfl) (fun W oW => r_fa (m' := 0) Tryz.underlying43 rfl Tryz.sizeOf3 rfl Z rfl rfl) Z rfl rfl ?_; clear Z az; intro az Z
    refine Pl.MSP (b := true) (by kernel_rfl) (fun W oW => r_ld Tryz.isAgg3 Z rfl ((Blk.ca (Blk.k B97 oW)) 0 _ rfl)) Z rfl rfl ?_; clear Z az; intro az Z
    have O98 := (Only.trans (Only.trans (Only.refl (fun _ => True) w14) o24 (fun _ _ => .inl trivial)) o37 (fun _ _ => .inl trivial))
    have r99 := (ow_k (ow_only (ow_k (ow_only (ow_k rD o59) s64 (fun k hk => lt_F (oneF_ge hg61) (size_only O98) k (ownF_lt r15 k hk))) o69) o86 (fun k hk => ge_F (ownF_lt r7) (Nat.le_refl _) k (ownF_ge (ow_k (ow_only (ow_k rD o59) s64 (fun k hk => lt_F (oneF_ge hg61) (size_only O98) k (ownF_lt r15 k hk))) o69) k hk))) o96)
    have h100 := Row.ownN KInt r99 hDl (bnd_ok bD)
    have hk101 : q52 < 400 := by omega
    have hk102 : q52 < (D).length := by omega
    obtain ⟨m103, hm104, ok105, hA106⟩ := Row.el KInt h100 hk102
    have E107 : ∀ W, Only NoF w95 W → CA W (eA A13 1 (q52)) [.int .i64 (m103)] := Row.ce KInt h100 hm104 rfl
    have hb108 := bD m103 (List.mem_of_getElem? hm104)
    refine Pl.MSP (b := true) (by kernel_rfl) (fun W oW => r_ia (k := q52) (size := 1) Tryz.underlying30 Tryz.sizeOf3 Z rfl rfl hq53 hk101 hA106) Z rfl rfl ?_; clear Z az; intro az Z
    refine Pl.MSP (b := true) (by kernel_rfl) (fun W oW => r_ld Tryz.isAgg3 Z rfl (CA.first (E107 _ (Only.trans' (Only.refl NoF w95) oW)))) Z rfl rfl ?_; clear Z az; intro az Z
    refine Pl.MSP (b := true) (by kernel_rfl) (fun W oW => r_fa (m' := 1) Tryz.underlying43 rfl Tryz.sizeOf3 rfl Z rfl rfl) Z rfl rfl ?_; clear Z az; intro az Z
    refine Pl.MSP (b := true) (by kernel_rfl) (fun W oW => r_ld Tryz.isAgg3 Z rfl ((Blk.ca (Blk.k B97 oW)) 1 _ rfl)) Z rfl rfl ?_; clear Z az; intro az Z
    refine Pl.MSP (b := true) (by kernel_rfl) (fun W oW => r_max Z rfl rfl) Z rfl rfl ?_; clear Z az; intro az Z
    refine Pl.MSP (b := true) (by kernel_rfl) (fun W oW => r_ia (k := q52) (size := 1) Tryz.underlying30 Tryz.sizeOf3 Z rfl rfl hq53 hk101 hA106) Z rfl rfl ?_; clear Z az; intro az Z
    have hk116 : q52 < 400 := by omega
    refine Pl.MSSQ (k := q52) (x := (max (m103) (m46.n))) KInt Tryz.sizeOf3 Z rfl rfl rfl rfl rfl r99 hDl hk116 fun w109 o110 r111 => ?_
    obtain ⟨N112, hN113⟩ : ∃ N0, N0 = List.set D q52 (max (m103) (m46.n)) := ⟨_, rfl⟩
    rw [← hN113] at r111
    have hl114 : N112.length = 400 := by rw [hN113, List.length_set]; exact hDl
    have ok115 : ∀ zq ∈ N112, KInt.ok zq := by rw [hN113]; exact set_ok (bnd_ok bD) (by show I64 _; unfold I64; omega)
    refine ⟨⟨fun h => absurd h (by decide), (Only.trans (Only.refl (ownF (.slice A13 (400) 400)) w95) o110 (fun _ h => .inl h))⟩, ?_⟩
    have bd117 : ∀ z ∈ N112, 0 ≤ z ∧ z ≤ 400 := by rw [hN113]; exact bnd_set bD (by omega)
    refine wpPl_nil ?_
    refine k94 _ _ (wp_seq_k fun _ k118 => wp_region_lit ?_)
    refine L (r_fa (m' := 3) Tryz.underlying43 rfl Tryz.sizeOf35 rfl Z rfl rfl) Z rfl ?_; clear Z az; intro az Z
    have B119 := (Blk.only B97 o110 (fun h => absurd ((ownF_lt r15) _ h) (Nat.not_lt.2 (Nat.le_trans (size_only O98) hg61))))
    refine L (r_ld Tryz.isAgg35 Z rfl ((Blk.ca B119) 3 _ rfl)) Z rfl ?_; clear Z az; intro az Z
    refine L (r_lenL Tryz.underlying35 Z rfl) Z rfl ?_; clear Z az; intro az Z
    refine L (r_mv Z rfl) Z rfl ?_; clear Z az; intro az Z
    refine k118 _ _ ?_
    refine wp_block ?_
    refine wp_loop_m (fun mz az W => ∃ i : Nat, ∃ Di : List Int, mz = m46.l.length - i ∧ Fr 91 [(3, .slice A5 (400) 400), (4, .slice A13 (400) 400), (15, .slice A25 (L27.length) c26), (16, .int .i64 (((L27.length : Nat) : Int))), (17, .int .i64 ((k : Int))), (49, .slice m46.A (m46.l.length) m46.c), (50, .int .i64 (((m46.l.length : Nat) : Int))), (51, .int .i64 ((i : Int)))] az ∧ (i ≤ m46.l.length) ∧ (Di = tabN fun h => (m46.l.take i).foldl (wantR h) (wantH h (needN (L27.take k) h) m46)) ∧ (Di.length = 400) ∧ (∀ z ∈ Di, 0 ≤ z ∧ z ≤ 400) ∧ Only (ownF (.slice A13 (400) 400)) w109 W ∧ W.ownsRow w6.heap.size 3 1 (.slice A13 (400) 400) 400 (List.flatMap KInt.cells Di)) ?_ ?_
    ·
     exact ⟨_, 0, N112, rfl, Z.cut ⟨rfl, rfl, rfl, rfl, rfl, rfl, rfl, rfl, trivial⟩, Nat.zero_le _, (hN113.trans (nd_own hq53 (by omega) hD hm104)), hl114, bd117, (Only.refl (ownF (.slice A13 (400) 400)) w109), r111⟩
    clear Z az
    rintro mz az w120 ⟨i, Di, hm122, Z, hi, hDi, hDil, bDi, o121, rDi⟩
    refine wp_seq_k fun _ k123 => wp_region_lit ?_
    refine L (r_ltI Z rfl rfl) Z rfl ?_; clear Z az; intro az Z
    refine k123 _ _ (wp_seq_k fun _ k124 => ?_)
    refine br Z rfl (fun hc125 => ?_) (fun hc125 => ?_)
    ·
     have p126 := of_decide_eq_true hc125
     refine wp_skip ?_
     refine k124 _ _ (wp_seq_k fun _ k127 => ?_)
     refine wp_block ?_
     refine wp_seq_k fun _ k128 => wp_region_lit ?_
     have hk129 : i < (m46.l).length := by omega
     have h135 := SliceOf.rg (hN30 _ (List.mem_of_getElem? hm47)).2.2.2.1
     have O136 : Only NoF w36 w68 := (Only.trans' (o_sg o59 s64 (Nat.le_refl _) (oneF_ge hg61)) o69)
     have h137 := (SliceOf.kp (SliceOf.kp (SliceOf.kp (SliceOf.kp (SliceOf.kp (SliceOf.kp h135 o37 (fun k hk => ge_F (fun k h => (Or.elim h (fun h => (Nat.lt_of_lt_of_le ((ownF_lt r7) k h) (size_only o16))) (fun h => (Nat.lt_of_lt_of_le ((ownF_lt r15) k h) (Nat.le_refl _))))) (Nat.le_refl _) k hk.1) (fun _ _ _ _ h => h)) O136 (fun _ _ h => h) (fun _ _ _ _ h => h)) o86 (fun k hk => ge_F (ownF_lt r7) (size_only o16) k hk.1) (fun _ _ _ _ h => h)) o96 (fun _ _ h => h) (fun _ _ _ _ h => h)) o110 (fun k hk => ge_F (ownF_lt r15) (Nat.le_refl _) k hk.1) (fun _ _ _ _ h => h)) o121 (fun k hk => ge_F (ownF_lt r15) (Nat.le_refl _) k hk.1) (fun _ _ _ _ h => h))
     obtain ⟨m130, hm131, ok132, hA133⟩ := Row.el KRef h137 hk129
     have E134 : ∀ W, Only NoF w120 W → CA W (eA m46.A 2 (i)) [.int .i64 (m130.h), .int .i64 (m130.n)] := Row.ce KRef h137 hm131 rfl
     have hrr := ref_bnd (hrt _ (List.mem_of_getElem? hm47)) hm131
     obtain ⟨q138, hq139⟩ : ∃ q : Nat, m130.h = (q : Int) := ⟨m130.h.toNat, by omega⟩
     refine L (r_ia (k := i) (size := 2) Tryz.underlying35 Tryz.sizeOf59 Z rfl rfl rfl hk129 hA133) Z rfl ?_; clear Z az; intro az Z
     refine L (r_ldA Tryz.isAgg59 Tryz.sizeOf59 Z rfl (E134 _ (Only.refl NoF w120)) rfl) Z rfl ?_; clear Z az; intro az Z
     refine LAl (v := .agg #[.int .i64 (0), .int .i64 (0)]) Tryz.zeroValue59 Z rfl rfl ?_
     clear Z az; intro g140 w141 hg144 hl145 o142 B143 az Z
     refine LSt (cs' := [.int .i64 (m130.h), .int .i64 (m130.n)]) Tryz.sizeOf59 Z rfl rfl rfl rfl rfl ⟨rfl, rfl, trivial⟩ B143 rfl rfl fun w146 s147 B148 => ?_
     refine k128 _ _ ?_
     refine reg_p (ownF (.slice A13 (400) 400)) 0 [13] (.rd 0 (.rd 1 (.rd 2 (.rd 3 (.rd 4 (.rd 5 (.rd 6 (.rd 7 (.rd 8 (.rd 9 (.rd 10 (.rd 11 (.rd 12 (.ex 13 .nil)))))))))))))) (by kernel_rfl) (by kernel_rfl) (fun _ _ _ _ _ h => h) fun w149 o150 => ?_
     have B151 := (Blk.k B148 o150)
     refine Pl.MSP (b := true) (by kernel_rfl) (fun W oW => r_mv Z rfl) Z rfl rfl ?_; clear Z az; intro az Z
     refine Pl.MSP (b := true) (by kernel_rfl) (fun W oW => r_fa (m' := 0) Tryz.underlying59 rfl Tryz.sizeOf3 rfl Z rfl rfl) Z rfl rfl ?_; clear Z az; intro az Z
     refine Pl.MSP (b := true) (by kernel_rfl) (fun W oW => r_ld Tryz.isAgg3 Z rfl ((Blk.ca (Blk.k B151 oW)) 0 _ rfl)) Z rfl rfl ?_; clear Z az; intro az Z
     refine Pl.MSP (b := true) (by kernel_rfl) (fun W oW => r_mv Z rfl) Z rfl rfl ?_; clear Z az; intro az Z
     refine Pl.MSP (b := true) (by kernel_rfl) (fun W oW => r_fa (m' := 0) Tryz.underlying59 rfl Tryz.sizeOf3 rfl Z rfl rfl) Z rfl rfl ?_; clear Z az; intro az Z
     refine Pl.MSP (b := true) (by kernel_rfl) (fun W oW => r_ld Tryz.isAgg3 Z rfl ((Blk.ca (Blk.k B151 oW)) 0 _ rfl)) Z rfl rfl ?_; clear Z az; intro az Z
     have O152 := (Only.trans (Only.trans (Only.trans (Only.trans (Only.trans (Only.trans (Only.trans (Only.trans (Only.trans (Only.refl (fun _ => True) w14) o24 (fun _ _ => .inl trivial)) o37 (fun _ _ => .inl trivial)) o59 (fun _ _ => .inl trivial)) s64 (fun _ _ => .inl trivial)) o69 (fun _ _ => .inl trivial)) o86 (fun _ _ => .inl trivial)) o96 (fun _ _ => .inl trivial)) o110 (fun _ _ => .inl trivial)) o121 (fun _ _ => .inl trivial))
     have r153 := (ow_k (ow_only (ow_k rDi o142) s147 (fun k hk => lt_F (oneF_ge hg144) (size_only O152) k (ownF_lt r15 k hk))) o150)
     have h154 := Row.ownN KInt r153 hDil (bnd_ok bDi)
     have hk155 : q138 < 400 := by omega
     have hk156 : q138 < (Di).length := by omega
     obtain ⟨m157, hm158, ok159, hA160⟩ := Row.el KInt h154 hk156
     have E161 : ∀ W, Only NoF w149 W → CA W (eA A13 1 (q138)) [.int .i64 (m157)] := Row.ce KInt h154 hm158 rfl
     have hb162 := bDi m157 (List.mem_of_getElem? hm158)
     refine Pl.MSP (b := true) (by kernel_rfl) (fun W oW => r_ia (k := q138) (size := 1) Tryz.underlying30 Tryz.sizeOf3 Z rfl rfl hq139 hk155 hA160) Z rfl rfl ?_; clear Z az; intro az Z
     refine Pl.MSP (b := true) (by kernel_rfl) (fun W oW => r_ld Tryz.isAgg3 Z rfl (CA.first (E161 _ (Only.trans' (Only.refl NoF w149) oW)))) Z rfl rfl ?_; clear Z az; intro az Z
     refine Pl.MSP (b := true) (by kernel_rfl) (fun W oW => r_fa (m' := 1) Tryz.underlying59 rfl Tryz.sizeOf3 rfl Z rfl rfl) Z rfl rfl ?_; clear Z az; intro az Z
     refine Pl.MSP (b := true) (by kernel_rfl) (fun W oW => r_ld Tryz.isAgg3 Z rfl ((Blk.ca (Blk.k B151 oW)) 1 _ rfl)) Z rfl rfl ?_; clear Z az; intro az Z
     have i163 : I64 ((m130.n + 1)) := by unfold I64; omega
     refine Pl.MSP (b := true) (by kernel_rfl) (fun W oW => r_addI (r := (m130.n + 1)) Z rfl rfl rfl i163) Z rfl rfl ?_; clear Z az; intro az Z
     refine Pl.MSP (b := true) (by kernel_rfl) (fun W oW => r_max Z rfl rfl) Z rfl rfl ?_; clear Z az; intro az Z
     refine Pl.MSP (b := true) (by kernel_rfl) (fun W oW => r_ia (k := q138) (size := 1) Tryz.underlying30 Tryz.sizeOf3 Z rfl rfl hq139 hk155 hA160) Z rfl rfl ?_; clear Z az; intro az Z
     have hk171 : q138 < 400 := by omega
     refine Pl.MSSQ (k := q138) (x := (max (m157) ((m130.n + 1)))) KInt Tryz.sizeOf3 Z rfl rfl rfl rfl rfl r153 hDil hk171 fun w164 o165 r166 => ?_
     obtain ⟨N167, hN168⟩ : ∃ N0, N0 = List.set Di q138 (max (m157) ((m130.n + 1))) := ⟨_, rfl⟩
     rw [← hN168] at r166
     have hl169 : N167.length = 400 := by rw [hN168, List.length_set]; exact hDil
     have ok170 : ∀ zq ∈ N167, KInt.ok zq := by rw [hN168]; exact set_ok (bnd_ok bDi) (by show I64 _; unfold I64; omega)
     refine ⟨⟨fun h => absurd h (by decide), (Only.trans (Only.refl (ownF (.slice A13 (400) 400)) w149) o165 (fun _ h => .inl h))⟩, ?_⟩
     have bd172 : ∀ z ∈ N167, 0 ≤ z ∧ z ≤ 400 := by rw [hN168]; exact bnd_set bDi (by omega)
     refine wpPl_nil ?_
     refine k127 _ _ ?_
     refine wp_region_lit ?_
     have i173 : I64 (((i : Int) + 1)) := by unfold I64; omega
     refine L (r_addI (r := ((i : Int) + 1)) Z rfl rfl rfl i173) Z rfl ?_; clear Z az; intro az Z
     refine L (r_mv Z rfl) Z rfl ?_; clear Z az; intro az Z
     have O174 := (Only.trans (Only.refl (fun _ => True) w109) o121 (fun _ _ => .inl trivial))
     exact ⟨_, (by omega), i + 1, N167, rfl, Z.cut ⟨rfl, rfl, rfl, rfl, rfl, rfl, rfl, rfl, trivial⟩, (by omega), (hN168.trans (nd_ref hm131 hq139 (by omega) hDi hm158)), hl169, bd172, (Only.trans (Only.trans (Only.trans (Only.trans (Only.trans (Only.refl (ownF (.slice A13 (400) 400)) w109) o121 (fun _ h => .inl h)) o142 (fun _ h => h.elim)) s147 (fun k h => .inr (Nat.le_trans (size_only O174) ((oneF_ge hg144) k h)))) o150 (fun _ h => h.elim)) o165 (fun _ h => .inl h)), r166⟩
    ·
     have p175 := of_decide_eq_false hc125
     refine wp_exit ?_
     refine th_exit ?_
     refine th_exit ?_
     refine ib_hit ?_
     refine k43 _ _ ?_
     refine wp_region_lit ?_
     have i176 : I64 (((k : Int) + 1)) := by unfold I64; omega
     refine L (r_addI (r := ((k : Int) + 1)) Z rfl rfl rfl i176) Z rfl ?_; clear Z az; intro az Z
     refine L (r_mv Z rfl) Z rfl ?_; clear Z az; intro az Z
     have O177 := (Only.trans (Only.refl (fun _ => True) w23) o37 (fun _ _ => .inl trivial))
     have r178 := (ow_only (ow_only (ow_k r87 o96) o110 (fun k hk => lt_F (ownF_ge r15) (Nat.le_refl _) k (ownF_lt r7 k hk))) o121 (fun k hk => lt_F (ownF_ge r15) (Nat.le_refl _) k (ownF_lt r7 k hk)))
     exact ⟨_, (by omega), k + 1, N88, Di, rfl, Z.cut ⟨rfl, rfl, rfl, rfl, rfl, trivial⟩, (by omega), (hN89.trans (nx_yes hm47 hq53 (by omega) hN hm77 (of_decide_eq_true hc82))), (nd_end hm47 (by omega) hDi), hl90, hDil, bd93, bDi, (Only.trans (Only.trans (Only.trans (Only.trans (Only.trans (Only.trans (Only.trans (Only.trans (Only.refl (orF (ownF (.slice A5 (400) 400)) (ownF (.slice A13 (400) 400))) w23) o37 (fun _ h => .inl h)) o59 (fun _ h => h.elim)) s64 (fun k h => .inr (Nat.le_trans (size_only O177) ((oneF_ge hg61) k h)))) o69 (fun _ h => h.elim)) o86 (fun _ h => .inl (.inl h))) o96 (fun _ h => h.elim)) o110 (fun _ h => .inl (.inr h))) o121 (fun _ h => .inl (.inr h))), r178, rDi⟩
   ·
    have p179 := of_decide_eq_false hc82
    refine wp_skip ?_
    refine k66 _ _ (wp_seq_k fun _ k180 => ?_)
    refine reg_p (ownF (.slice A13 (400) 400)) 0 [12] (.rd 0 (.rd 1 (.rd 2 (.rd 3 (.rd 4 (.rd 5 (.rd 6 (.rd 7 (.rd 8 (.rd 9 (.rd 10 (.rd 11 (.ex 12 .nil))))))))))))) (by kernel_rfl) (by kernel_rfl) (fun _ _ _ _ _ h => h) fun w181 o182 => ?_
    have B183 := (Blk.k B70 o182)
    refine Pl.MSP (b := true) (by kernel_rfl) (fun W oW => r_mv Z rfl) Z rfl rfl ?_; clear Z az; intro az Z
    refine Pl.MSP (b := true) (by kernel_rfl) (fun W oW => r_fa (m' := 0) Tryz.underlying43 rfl Tryz.sizeOf3 rfl Z rfl rfl) Z rfl rfl ?_; clear Z az; intro az Z
    refine Pl.MSP (b := true) (by kernel_rfl) (fun W oW => r_ld Tryz.isAgg3 Z rfl ((Blk.ca (Blk.k B183 oW)) 0 _ rfl)) Z rfl rfl ?_; clear Z az; intro az Z
    refine Pl.MSP (b := true) (by kernel_rfl) (fun W oW => r_mv Z rfl) Z rfl rfl ?_; clear Z az; intro az Z
    refine Pl.MSP (b := true) (by kernel_rfl) (fun W oW => r_fa (m' := 0) Tryz.underlying43 rfl Tryz.sizeOf3 rfl Z rfl rfl) Z rfl rfl ?_; clear Z az; intro az Z
    refine Pl.MSP (b := true) (by kernel_rfl) (fun W oW => r_ld Tryz.isAgg3 Z rfl ((Blk.ca (Blk.k B183 oW)) 0 _ rfl)) Z rfl rfl ?_; clear Z az; intro az Z
    have O184 := (Only.trans (Only.trans (Only.refl (fun _ => True) w14) o24 (fun _ _ => .inl trivial)) o37 (fun _ _ => .inl trivial))
    have r185 := (ow_k (ow_k (ow_only (ow_k rD o59) s64 (fun k hk => lt_F (oneF_ge hg61) (size_only O184) k (ownF_lt r15 k hk))) o69) o182)
    have h186 := Row.ownN KInt r185 hDl (bnd_ok bD)
    have hk187 : q52 < 400 := by omega
    have hk188 : q52 < (D).length := by omega
    obtain ⟨m189, hm190, ok191, hA192⟩ := Row.el KInt h186 hk188
    have E193 : ∀ W, Only NoF w181 W → CA W (eA A13 1 (q52)) [.int .i64 (m189)] := Row.ce KInt h186 hm190 rfl
    have hb194 := bD m189 (List.mem_of_getElem? hm190)
    refine Pl.MSP (b := true) (by kernel_rfl) (fun W oW => r_ia (k := q52) (size := 1) Tryz.underlying30 Tryz.sizeOf3 Z rfl rfl hq53 hk187 hA192) Z rfl rfl ?_; clear Z az; intro az Z
    refine Pl.MSP (b := true) (by kernel_rfl) (fun W oW => r_ld Tryz.isAgg3 Z rfl (CA.first (E193 _ (Only.trans' (Only.refl NoF w181) oW)))) Z rfl rfl ?_; clear Z az; intro az Z
    refine Pl.MSP (b := true) (by kernel_rfl) (fun W oW => r_fa (m' := 1) Tryz.underlying43 rfl Tryz.sizeOf3 rfl Z rfl rfl) Z rfl rfl ?_; clear Z az; intro az Z
    refine Pl.MSP (b := true) (by kernel_rfl) (fun W oW => r_ld Tryz.isAgg3 Z rfl ((Blk.ca (Blk.k B183 oW)) 1 _ rfl)) Z rfl rfl ?_; clear Z az; intro az Z
    refine Pl.MSP (b := true) (by kernel_rfl) (fun W oW => r_max Z rfl rfl) Z rfl rfl ?_; clear Z az; intro az Z
    refine Pl.MSP (b := true) (by kernel_rfl) (fun W oW => r_ia (k := q52) (size := 1) Tryz.underlying30 Tryz.sizeOf3 Z rfl rfl hq53 hk187 hA192) Z rfl rfl ?_; clear Z az; intro az Z
    have hk202 : q52 < 400 := by omega
    refine Pl.MSSQ (k := q52) (x := (max (m189) (m46.n))) KInt Tryz.sizeOf3 Z rfl rfl rfl rfl rfl r185 hDl hk202 fun w195 o196 r197 => ?_
    obtain ⟨N198, hN199⟩ : ∃ N0, N0 = List.set D q52 (max (m189) (m46.n)) := ⟨_, rfl⟩
    rw [← hN199] at r197
    have hl200 : N198.length = 400 := by rw [hN199, List.length_set]; exact hDl
    have ok201 : ∀ zq ∈ N198, KInt.ok zq := by rw [hN199]; exact set_ok (bnd_ok bD) (by show I64 _; unfold I64; omega)
    refine ⟨⟨fun h => absurd h (by decide), (Only.trans (Only.refl (ownF (.slice A13 (400) 400)) w181) o196 (fun _ h => .inl h))⟩, ?_⟩
    have bd203 : ∀ z ∈ N198, 0 ≤ z ∧ z ≤ 400 := by rw [hN199]; exact bnd_set bD (by omega)
    refine wpPl_nil ?_
    refine k180 _ _ (wp_seq_k fun _ k204 => wp_region_lit ?_)
    refine L (r_fa (m' := 3) Tryz.underlying43 rfl Tryz.sizeOf35 rfl Z rfl rfl) Z rfl ?_; clear Z az; intro az Z
    have B205 := (Blk.only B183 o196 (fun h => absurd ((ownF_lt r15) _ h) (Nat.not_lt.2 (Nat.le_trans (size_only O184) hg61))))
    refine L (r_ld Tryz.isAgg35 Z rfl ((Blk.ca B205) 3 _ rfl)) Z rfl ?_; clear Z az; intro az Z
    refine L (r_lenL Tryz.underlying35 Z rfl) Z rfl ?_; clear Z az; intro az Z
    refine L (r_mv Z rfl) Z rfl ?_; clear Z az; intro az Z
    refine k204 _ _ ?_
    refine wp_block ?_
    refine wp_loop_m (fun mz az W => ∃ i : Nat, ∃ Di : List Int, mz = m46.l.length - i ∧ Fr 91 [(3, .slice A5 (400) 400), (4, .slice A13 (400) 400), (15, .slice A25 (L27.length) c26), (16, .int .i64 (((L27.length : Nat) : Int))), (17, .int .i64 ((k : Int))), (49, .slice m46.A (m46.l.length) m46.c), (50, .int .i64 (((m46.l.length : Nat) : Int))), (51, .int .i64 ((i : Int)))] az ∧ (i ≤ m46.l.length) ∧ (Di = tabN fun h => (m46.l.take i).foldl (wantR h) (wantH h (needN (L27.take k) h) m46)) ∧ (Di.length = 400) ∧ (∀ z ∈ Di, 0 ≤ z ∧ z ≤ 400) ∧ Only (ownF (.slice A13 (400) 400)) w195 W ∧ W.ownsRow w6.heap.size 3 1 (.slice A13 (400) 400) 400 (List.flatMap KInt.cells Di)) ?_ ?_
    ·
     exact ⟨_, 0, N198, rfl, Z.cut ⟨rfl, rfl, rfl, rfl, rfl, rfl, rfl, rfl, trivial⟩, Nat.zero_le _, (hN199.trans (nd_own hq53 (by omega) hD hm190)), hl200, bd203, (Only.refl (ownF (.slice A13 (400) 400)) w195), r197⟩
    clear Z az
    rintro mz az w206 ⟨i, Di, hm208, Z, hi, hDi, hDil, bDi, o207, rDi⟩
    refine wp_seq_k fun _ k209 => wp_region_lit ?_
    refine L (r_ltI Z rfl rfl) Z rfl ?_; clear Z az; intro az Z
    refine k209 _ _ (wp_seq_k fun _ k210 => ?_)
    refine br Z rfl (fun hc211 => ?_) (fun hc211 => ?_)
    ·
     have p212 := of_decide_eq_true hc211
     refine wp_skip ?_
     refine k210 _ _ (wp_seq_k fun _ k213 => ?_)
     refine wp_block ?_
     refine wp_seq_k fun _ k214 => wp_region_lit ?_
     have hk215 : i < (m46.l).length := by omega
     have h221 := SliceOf.rg (hN30 _ (List.mem_of_getElem? hm47)).2.2.2.1
     have O222 : Only NoF w36 w181 := (Only.trans' (Only.trans' (o_sg o59 s64 (Nat.le_refl _) (oneF_ge hg61)) o69) o182)
     have h223 := (SliceOf.kp (SliceOf.kp (SliceOf.kp (SliceOf.kp h221 o37 (fun k hk => ge_F (fun k h => (Or.elim h (fun h => (Nat.lt_of_lt_of_le ((ownF_lt r7) k h) (size_only o16))) (fun h => (Nat.lt_of_lt_of_le ((ownF_lt r15) k h) (Nat.le_refl _))))) (Nat.le_refl _) k hk.1) (fun _ _ _ _ h => h)) O222 (fun _ _ h => h) (fun _ _ _ _ h => h)) o196 (fun k hk => ge_F (ownF_lt r15) (Nat.le_refl _) k hk.1) (fun _ _ _ _ h => h)) o207 (fun k hk => ge_F (ownF_lt r15) (Nat.le_refl _) k hk.1) (fun _ _ _ _ h => h))
     obtain ⟨m216, hm217, ok218, hA219⟩ := Row.el KRef h223 hk215
     have E220 : ∀ W, Only NoF w206 W → CA W (eA m46.A 2 (i)) [.int .i64 (m216.h), .int .i64 (m216.n)] := Row.ce KRef h223 hm217 rfl
     have hrr := ref_bnd (hrt _ (List.mem_of_getElem? hm47)) hm217
     obtain ⟨q224, hq225⟩ : ∃ q : Nat, m216.h = (q : Int) := ⟨m216.h.toNat, by omega⟩
     refine L (r_ia (k := i) (size := 2) Tryz.underlying35 Tryz.sizeOf59 Z rfl rfl rfl hk215 hA219) Z rfl ?_; clear Z az; intro az Z
     refine L (r_ldA Tryz.isAgg59 Tryz.sizeOf59 Z rfl (E220 _ (Only.refl NoF w206)) rfl) Z rfl ?_; clear Z az; intro az Z
     refine LAl (v := .agg #[.int .i64 (0), .int .i64 (0)]) Tryz.zeroValue59 Z rfl rfl ?_
     clear Z az; intro g226 w227 hg230 hl231 o228 B229 az Z
     refine LSt (cs' := [.int .i64 (m216.h), .int .i64 (m216.n)]) Tryz.sizeOf59 Z rfl rfl rfl rfl rfl ⟨rfl, rfl, trivial⟩ B229 rfl rfl fun w232 s233 B234 => ?_
     refine k214 _ _ ?_
     refine reg_p (ownF (.slice A13 (400) 400)) 0 [13] (.rd 0 (.rd 1 (.rd 2 (.rd 3 (.rd 4 (.rd 5 (.rd 6 (.rd 7 (.rd 8 (.rd 9 (.rd 10 (.rd 11 (.rd 12 (.ex 13 .nil)))))))))))))) (by kernel_rfl) (by kernel_rfl) (fun _ _ _ _ _ h => h) fun w235 o236 => ?_
     have B237 := (Blk.k B234 o236)
     refine Pl.MSP (b := true) (by kernel_rfl) (fun W oW => r_mv Z rfl) Z rfl rfl ?_; clear Z az; intro az Z
     refine Pl.MSP (b := true) (by kernel_rfl) (fun W oW => r_fa (m' := 0) Tryz.underlying59 rfl Tryz.sizeOf3 rfl Z rfl rfl) Z rfl rfl ?_; clear Z az; intro az Z
     refine Pl.MSP (b := true) (by kernel_rfl) (fun W oW => r_ld Tryz.isAgg3 Z rfl ((Blk.ca (Blk.k B237 oW)) 0 _ rfl)) Z rfl rfl ?_; clear Z az; intro az Z
     refine Pl.MSP (b := true) (by kernel_rfl) (fun W oW => r_mv Z rfl) Z rfl rfl ?_; clear Z az; intro az Z
     refine Pl.MSP (b := true) (by kernel_rfl) (fun W oW => r_fa (m' := 0) Tryz.underlying59 rfl Tryz.sizeOf3 rfl Z rfl rfl) Z rfl rfl ?_; clear Z az; intro az Z
     refine Pl.MSP (b := true) (by kernel_rfl) (fun W oW => r_ld Tryz.isAgg3 Z rfl ((Blk.ca (Blk.k B237 oW)) 0 _ rfl)) Z rfl rfl ?_; clear Z az; intro az Z
     have O238 := (Only.trans (Only.trans (Only.trans (Only.trans (Only.trans (Only.trans (Only.trans (Only.trans (Only.refl (fun _ => True) w14) o24 (fun _ _ => .inl trivial)) o37 (fun _ _ => .inl trivial)) o59 (fun _ _ => .inl trivial)) s64 (fun _ _ => .inl trivial)) o69 (fun _ _ => .inl trivial)) o182 (fun _ _ => .inl trivial)) o196 (fun _ _ => .inl trivial)) o207 (fun _ _ => .inl trivial))
     have r239 := (ow_k (ow_only (ow_k rDi o228) s233 (fun k hk => lt_F (oneF_ge hg230) (size_only O238) k (ownF_lt r15 k hk))) o236)
     have h240 := Row.ownN KInt r239 hDil (bnd_ok bDi)
     have hk241 : q224 < 400 := by omega
     have hk242 : q224 < (Di).length := by omega
     obtain ⟨m243, hm244, ok245, hA246⟩ := Row.el KInt h240 hk242
     have E247 : ∀ W, Only NoF w235 W → CA W (eA A13 1 (q224)) [.int .i64 (m243)] := Row.ce KInt h240 hm244 rfl
     have hb248 := bDi m243 (List.mem_of_getElem? hm244)
     refine Pl.MSP (b := true) (by kernel_rfl) (fun W oW => r_ia (k := q224) (size := 1) Tryz.underlying30 Tryz.sizeOf3 Z rfl rfl hq225 hk241 hA246) Z rfl rfl ?_; clear Z az; intro az Z
     refine Pl.MSP (b := true) (by kernel_rfl) (fun W oW => r_ld Tryz.isAgg3 Z rfl (CA.first (E247 _ (Only.trans' (Only.refl NoF w235) oW)))) Z rfl rfl ?_; clear Z az; intro az Z
     refine Pl.MSP (b := true) (by kernel_rfl) (fun W oW => r_fa (m' := 1) Tryz.underlying59 rfl Tryz.sizeOf3 rfl Z rfl rfl) Z rfl rfl ?_; clear Z az; intro az Z
     refine Pl.MSP (b := true) (by kernel_rfl) (fun W oW => r_ld Tryz.isAgg3 Z rfl ((Blk.ca (Blk.k B237 oW)) 1 _ rfl)) Z rfl rfl ?_; clear Z az; intro az Z
     have i249 : I64 ((m216.n + 1)) := by unfold I64; omega
     refine Pl.MSP (b := true) (by kernel_rfl) (fun W oW => r_addI (r := (m216.n + 1)) Z rfl rfl rfl i249) Z rfl rfl ?_; clear Z az; intro az Z
     refine Pl.MSP (b := true) (by kernel_rfl) (fun W oW => r_max Z rfl rfl) Z rfl rfl ?_; clear Z az; intro az Z
     refine Pl.MSP (b := true) (by kernel_rfl) (fun W oW => r_ia (k := q224) (size := 1) Tryz.underlying30 Tryz.sizeOf3 Z rfl rfl hq225 hk241 hA246) Z rfl rfl ?_; clear Z az; intro az Z
     have hk257 : q224 < 400 := by omega
     refine Pl.MSSQ (k := q224) (x := (max (m243) ((m216.n + 1)))) KInt Tryz.sizeOf3 Z rfl rfl rfl rfl rfl r239 hDil hk257 fun w250 o251 r252 => ?_
     obtain ⟨N253, hN254⟩ : ∃ N0, N0 = List.set Di q224 (max (m243) ((m216.n + 1))) := ⟨_, rfl⟩
     rw [← hN254] at r252
     have hl255 : N253.length = 400 := by rw [hN254, List.length_set]; exact hDil
     have ok256 : ∀ zq ∈ N253, KInt.ok zq := by rw [hN254]; exact set_ok (bnd_ok bDi) (by show I64 _; unfold I64; omega)
     refine ⟨⟨fun h => absurd h (by decide), (Only.trans (Only.refl (ownF (.slice A13 (400) 400)) w235) o251 (fun _ h => .inl h))⟩, ?_⟩
     have bd258 : ∀ z ∈ N253, 0 ≤ z ∧ z ≤ 400 := by rw [hN254]; exact bnd_set bDi (by omega)
     refine wpPl_nil ?_
     refine k213 _ _ ?_
     refine wp_region_lit ?_
     have i259 : I64 (((i : Int) + 1)) := by unfold I64; omega
     refine L (r_addI (r := ((i : Int) + 1)) Z rfl rfl rfl i259) Z rfl ?_; clear Z az; intro az Z
     refine L (r_mv Z rfl) Z rfl ?_; clear Z az; intro az Z
     have O260 := (Only.trans (Only.refl (fun _ => True) w195) o207 (fun _ _ => .inl trivial))
     exact ⟨_, (by omega), i + 1, N253, rfl, Z.cut ⟨rfl, rfl, rfl, rfl, rfl, rfl, rfl, rfl, trivial⟩, (by omega), (hN254.trans (nd_ref hm217 hq225 (by omega) hDi hm244)), hl255, bd258, (Only.trans (Only.trans (Only.trans (Only.trans (Only.trans (Only.refl (ownF (.slice A13 (400) 400)) w195) o207 (fun _ h => .inl h)) o228 (fun _ h => h.elim)) s233 (fun k h => .inr (Nat.le_trans (size_only O260) ((oneF_ge hg230) k h)))) o236 (fun _ h => h.elim)) o251 (fun _ h => .inl h)), r252⟩
    ·
     have p261 := of_decide_eq_false hc211
     refine wp_exit ?_
     refine th_exit ?_
     refine th_exit ?_
     refine ib_hit ?_
     refine k43 _ _ ?_
     refine wp_region_lit ?_
     have i262 : I64 (((k : Int) + 1)) := by unfold I64; omega
     refine L (r_addI (r := ((k : Int) + 1)) Z rfl rfl rfl i262) Z rfl ?_; clear Z az; intro az Z
     refine L (r_mv Z rfl) Z rfl ?_; clear Z az; intro az Z
     have O263 := (Only.trans (Only.refl (fun _ => True) w23) o37 (fun _ _ => .inl trivial))
     have r264 := (ow_only (ow_only (ow_k r72 o182) o196 (fun k hk => lt_F (ownF_ge r15) (Nat.le_refl _) k (ownF_lt r7 k hk))) o207 (fun k hk => lt_F (ownF_ge r15) (Nat.le_refl _) k (ownF_lt r7 k hk)))
     exact ⟨_, (by omega), k + 1, N, Di, rfl, Z.cut ⟨rfl, rfl, rfl, rfl, rfl, trivial⟩, (by omega), (nx_no hm47 hq53 (by omega) hN hm77 (of_decide_eq_false hc82)), (nd_end hm47 (by omega) hDi), hNl, hDil, bN, bDi, (Only.trans (Only.trans (Only.trans (Only.trans (Only.trans (Only.trans (Only.trans (Only.refl (orF (ownF (.slice A5 (400) 400)) (ownF (.slice A13 (400) 400))) w23) o37 (fun _ h => .inl h)) o59 (fun _ h => h.elim)) s64 (fun k h => .inr (Nat.le_trans (size_only O263) ((oneF_ge hg61) k h)))) o69 (fun _ h => h.elim)) o182 (fun _ h => h.elim)) o196 (fun _ h => .inl (.inr h))) o207 (fun _ h => .inl (.inr h))), r264, rDi⟩
  ·
   have p265 := of_decide_eq_false hc41
   have hke : k = L27.length := by omega
   rw [hke, List.take_length] at hN hD
   refine wp_exit ?_
   refine th_exit ?_
   refine th_exit ?_
   refine ib_hit ?_
   refine k21 _ _ (wp_seq_k fun _ k266 => wp_region_lit ?_)
   refine L (r_as Z rfl) Z rfl ?_; clear Z az; intro az Z
   refine k266 _ _ (wp_seq_k fun _ k267 => ?_)
   refine wp_seq_k fun _ k268 => wp_region_lit ?_
   refine L (r_mv Z rfl) Z rfl ?_; clear Z az; intro az Z
   refine L (r_lenL Tryz.underlying30 Z rfl) Z rfl ?_; clear Z az; intro az Z
   refine L (r_mv Z rfl) Z rfl ?_; clear Z az; intro az Z
   refine k268 _ _ ?_
   refine wp_block ?_
   refine wp_loop_m (fun mz az W => ∃ p : Nat, ∃ O : List RM, ∃ Ao : Option Addr, ∃ co : Nat, mz = 400 - p ∧ Fr 91 [(4, .slice A13 (400) 400), (70, .slice A5 (400) 400), (71, .int .i64 (400)), (72, .int .i64 ((p : Int))), (9, .slice Ao (O.length) co)] az ∧ (p ≤ 400) ∧ (O = missL N D p) ∧ Only NoF w36 W ∧ W.ownsRow w36.heap.size 59 2 (.slice Ao O.length co) O.length (List.flatMap KRef.cells O)) ?_ ?_
   ·
    exact ⟨_, 0, [], none, 0, rfl, Z.cut ⟨rfl, rfl, rfl, rfl, rfl, trivial⟩, Nat.zero_le _, rfl, (Only.refl NoF w36), (World.ownsRow_nil _ _ _ _)⟩
   clear Z az
   rintro mz az w269 ⟨p, O, Ao, co, hm271, Z, hp, hO, o270, rO⟩
   have hOk0 : ∀ r ∈ O, KRef.ok r := by rw [hO]; exact ms_ok bN hNl (by omega)
   have hOl : O.length ≤ 400 := by rw [hO]; exact Nat.le_trans ms_len (by omega)
   refine wp_seq_k fun _ k272 => wp_region_lit ?_
   refine L (r_ltI Z rfl rfl) Z rfl ?_; clear Z az; intro az Z
   refine k272 _ _ (wp_seq_k fun _ k273 => ?_)
   refine br Z rfl (fun hc274 => ?_) (fun hc274 => ?_)
   ·
    have p275 := of_decide_eq_true hc274
    refine wp_skip ?_
    refine k273 _ _ (wp_seq_k fun _ k276 => ?_)
    refine wp_block ?_
    refine wp_seq_k fun _ k277 => wp_region_lit ?_
    refine L (r_mv Z rfl) Z rfl ?_; clear Z az; intro az Z
    have r278 := (ow_k rN o270)
    have h279 := Row.ownN KInt r278 hNl (bnd_ok bN)
    have hk280 : p < 400 := by omega
    have hk281 : p < (N).length := by omega
    obtain ⟨m282, hm283, ok284, hA285⟩ := Row.el KInt h279 hk281
    have E286 : ∀ W, Only NoF w269 W → CA W (eA A5 1 (p)) [.int .i64 (m282)] := Row.ce KInt h279 hm283 rfl
    have hb287 := bN m282 (List.mem_of_getElem? hm283)
    refine L (r_ia (k := p) (size := 1) Tryz.underlying30 Tryz.sizeOf3 Z rfl rfl rfl hk280 hA285) Z rfl ?_; clear Z az; intro az Z
    refine L (r_ld Tryz.isAgg3 Z rfl (CA.first (E286 _ (Only.refl NoF w269)))) Z rfl ?_; clear Z az; intro az Z
    refine L (r_as Z rfl) Z rfl ?_; clear Z az; intro az Z
    refine L (r_as Z rfl) Z rfl ?_; clear Z az; intro az Z
    refine k277 _ _ (wp_seq_k fun _ k288 => wp_region_lit ?_)
    refine L (r_mv Z rfl) Z rfl ?_; clear Z az; intro az Z
    refine L (r_mv Z rfl) Z rfl ?_; clear Z az; intro az Z
    refine L (r_mv Z rfl) Z rfl ?_; clear Z az; intro az Z
    have r289 := (ow_k rD o270)
    have h290 := Row.ownN KInt r289 hDl (bnd_ok bD)
    have hk291 : p < 400 := by omega
    have hk292 : p < (D).length := by omega
    obtain ⟨m293, hm294, ok295, hA296⟩ := Row.el KInt h290 hk292
    have E297 : ∀ W, Only NoF w269 W → CA W (eA A13 1 (p)) [.int .i64 (m293)] := Row.ce KInt h290 hm294 rfl
    have hb298 := bD m293 (List.mem_of_getElem? hm294)
    refine L (r_ia (k := p) (size := 1) Tryz.underlying30 Tryz.sizeOf3 Z rfl rfl rfl hk291 hA296) Z rfl ?_; clear Z az; intro az Z
    refine L (r_ld Tryz.isAgg3 Z rfl (CA.first (E297 _ (Only.refl NoF w269)))) Z rfl ?_; clear Z az; intro az Z
    refine L (r_ltI Z rfl rfl) Z rfl ?_; clear Z az; intro az Z
    refine k288 _ _ ?_
    refine br Z rfl (fun hc299 => ?_) (fun hc299 => ?_)
    ·
     have p300 := of_decide_eq_true hc299
     refine wp_region_lit ?_
     refine L (r_mv Z rfl) Z rfl ?_; clear Z az; intro az Z
     refine L (r_mv Z rfl) Z rfl ?_; clear Z az; intro az Z
     refine L (r_mv Z rfl) Z rfl ?_; clear Z az; intro az Z
     refine L (r_bd (v := .agg #[.int .i64 ((p : Int)), .int .i64 (m282)]) (build_Ref2 _ _) Z rfl) Z rfl ?_; clear Z az; intro az Z
     obtain ⟨A301, w302, hw, hA, r303, o304⟩ := Row.made (w := w269) KRef (e := 59) ([(⟨(p : Int), m282⟩ : RM)] : List RM) (by simp only [List.length_cons, List.length_nil]; unfold maxLen; omega)
     refine L (r_bs (z := .agg #[.int .i64 (0), .int .i64 (0)]) (size := 2) (vs := [(0, .agg #[.int .i64 ((p : Int)), .int .i64 (m282)])]) (cs := List.flatMap KRef.cells [(⟨(p : Int), m282⟩ : RM)]) Tryz.underlying35 Tryz.sizeOf59 Tryz.zeroValue59 rfl (Fr.evalps Z rfl) (by kernel_rfl)) Z rfl ?_
     rw [← hw, ← hA]; clear Z az; intro az Z
     clear hw hA
     have ok305 : ∀ zq ∈ ([(⟨(p : Int), m282⟩ : RM)] : List RM), KRef.ok zq := by intro zq hx; simp only [List.mem_cons, List.not_mem_nil, or_false] at hx; rcases hx with rfl <;> first | exact (show I64 ((p : Int)) ∧ I64 (m282) from ⟨by unfold I64; omega, by unfold I64; omega⟩)
     have r306 := (ow_k rO o304)
     have h307 := SliceOf.pl (Row.own KRef r303 ok305)
     have hb315 : (List.length (O) + List.length ([(⟨(p : Int), m282⟩ : RM)])) * 16 ≤ 140737488355328 := by (simp only [List.length_append, List.length_cons, List.length_nil]; omega)
     have O316 : Only NoF w36 w302 := (Only.trans' o270 o304)
     obtain ⟨A308, c309, w310, hr311, r312, o313, al314⟩ := Row.app (P := Tryz.prog) (l := O) (l2 := [(⟨(p : Int), m282⟩ : RM)]) KRef elemRef r306 h307 hb315 (by unfold maxLen; omega) (size_only O316)
     refine L (r_app hr311 Z rfl rfl) Z rfl ?_; clear Z az; intro az Z
     have ok317 : ∀ zq ∈ (O ++ [(⟨(p : Int), m282⟩ : RM)]), KRef.ok zq := (fun x hx => (List.mem_append.1 hx).elim (hOk0 x) ((Row.oks KRef h307) x))
     have h318 := Row.own KRef r312 ok317
     refine L (r_as Z rfl) Z rfl ?_; clear Z az; intro az Z
     refine k276 _ _ ?_
     refine wp_region_lit ?_
     have i319 : I64 (((p : Int) + 1)) := by unfold I64; omega
     refine L (r_addI (r := ((p : Int) + 1)) Z rfl rfl rfl i319) Z rfl ?_; clear Z az; intro az Z
     refine L (r_mv Z rfl) Z rfl ?_; clear Z az; intro az Z
     have O320 : Only NoF w36 w310 := (o_sg O316 o313 (Nat.le_refl _) (ownF_ge rO))
     exact ⟨_, (by omega), p + 1, _, A308, c309, rfl, Z.cut ⟨rfl, rfl, rfl, rfl, rfl, trivial⟩, (by omega), (by rw [hO, ms_yes hm283 hm294 hc299]), O320, r312⟩
    ·
     have p321 := of_decide_eq_false hc299
     refine wp_skip ?_
     refine k276 _ _ ?_
     refine wp_region_lit ?_
     have i322 : I64 (((p : Int) + 1)) := by unfold I64; omega
     refine L (r_addI (r := ((p : Int) + 1)) Z rfl rfl rfl i322) Z rfl ?_; clear Z az; intro az Z
     refine L (r_mv Z rfl) Z rfl ?_; clear Z az; intro az Z
     exact ⟨_, (by omega), p + 1, O, Ao, co, rfl, Z.cut ⟨rfl, rfl, rfl, rfl, rfl, trivial⟩, (by omega), (by rw [hO, ms_no hm283 hm294 hc299]), o270, rO⟩
   ·
    have p323 := of_decide_eq_false hc274
    refine wp_exit ?_
    refine th_exit ?_
    refine th_exit ?_
    refine ib_hit ?_
    refine k267 _ _ (wp_seq_k fun _ k324 => wp_region_lit ?_)
    refine L (r_mv Z rfl) Z rfl ?_; clear Z az; intro az Z
    refine L (r_as Z rfl) Z rfl ?_; clear Z az; intro az Z
    refine k324 _ _ ?_
    refine wp_ret ?_
    show bodyPost _ _ _ .ret _ _
    refine ret_of (vs := [.slice Ao (O.length) co]) Z Tryz.results22 ⟨rfl, trivial⟩ ?_
    have hok : ∀ r ∈ O, KRef.ok r := by rw [hO]; exact ms_ok bN hNl (by omega)
    rw [show p = 400 by omega, ms_all hN hD, ← miss_map, hL28] at hO; subst hO
    have O325 : Only NoF w w36 := (o_sg (Only.trans' O32 o24) o37 (size_only o4) (fun k h => (Or.elim h (fun h => (Nat.le_trans (Nat.le_refl _) ((ownF_ge r7) k h))) (fun h => (Nat.le_trans (size_only o8) ((ownF_ge r15) k h))))))
    have O326 : Only NoF w w269 := (Only.trans' O325 o270)
    exact ⟨_, _, rfl, ow_low rO (size_only O325), hok, O326⟩
 ·
  obtain ⟨A327, w328, hw, hA, r329, o330⟩ := Row.madeN (w := w3) KInt (e := 3) (l := List.replicate 400 (0 : Int)) (m := 400) List.length_replicate (by unfold maxLen; omega)
  refine Pl.MD (r_mk1 (m := 400) (x := (0 : Int)) (v := .int .i64 0) (b := 8) KInt Tryz.underlying30 (by kernel_rfl) (by decide) rfl rfl rfl Z rfl rfl (by decide)) Z rfl rfl ?_ ?_
  · rw [← hw]; exact ⟨fun _ => o330, (Only.trans (Only.refl NoF w3) o330 (fun _ h => h.elim))⟩
  rw [← hw, ← hA]; clear Z az; intro az Z
  clear hw hA
  obtain ⟨N331, hN332⟩ : ∃ N0 : List Int, N0 = List.replicate 400 (0 : Int) := ⟨_, rfl⟩
  rw [← hN332] at r329
  have hl333 : N331.length = 400 := by rw [hN332, List.length_replicate]
  have ok334 : ∀ zq ∈ N331, KInt.ok zq := by rw [hN332]; intro zq hq; rw [List.eq_of_mem_replicate hq]; exact (by show I64 0; unfold I64; omega)
  obtain ⟨A335, w336, hw, hA, r337, o338⟩ := Row.madeN (w := w328) KInt (e := 3) (l := List.replicate 400 (0 : Int)) (m := 400) List.length_replicate (by unfold maxLen; omega)
  refine Pl.MD (r_mk1 (m := 400) (x := (0 : Int)) (v := .int .i64 0) (b := 8) KInt Tryz.underlying30 (by kernel_rfl) (by decide) rfl rfl rfl Z rfl rfl (by decide)) Z rfl rfl ?_ ?_
  · rw [← hw]; exact ⟨fun _ => (Only.trans' o330 o338), (Only.trans (Only.trans (Only.refl NoF w3) o330 (fun _ h => h.elim)) o338 (fun _ h => h.elim))⟩
  rw [← hw, ← hA]; clear Z az; intro az Z
  clear hw hA
  obtain ⟨N339, hN340⟩ : ∃ N0 : List Int, N0 = List.replicate 400 (0 : Int) := ⟨_, rfl⟩
  rw [← hN340] at r337
  have hl341 : N339.length = 400 := by rw [hN340, List.length_replicate]
  have ok342 : ∀ zq ∈ N339, KInt.ok zq := by rw [hN340]; intro zq hq; rw [List.eq_of_mem_replicate hq]; exact (by show I64 0; unfold I64; omega)
  refine Pl.MSP (b := true) (by kernel_rfl) (fun W oW => r_as Z rfl) Z rfl rfl ?_; clear Z az; intro az Z
  refine Pl.MSP (b := true) (by kernel_rfl) (fun W oW => r_as Z rfl) Z rfl rfl ?_; clear Z az; intro az Z
  refine wpPl_nil ?_
  refine k2 _ _ (wp_seq_k fun _ k343 => ?_)
  refine wp_seq_k fun _ k344 => wp_region_lit ?_
  refine L (r_mv Z rfl) Z rfl ?_; clear Z az; intro az Z
  have O354 : Only NoF w w336 := (Only.trans' (Only.trans' o4 o330) o338)
  have G353 := Gr.k hG O354
  refine LC Z rfl rfl Tryz.call10 (Join1_v G353 (NtV.k t O354) hl) rfl ?_
  rintro e w345 ⟨A347, c348, L349, rfl, hL350, hS351, hN352, o346⟩; refine ⟨_, rfl, ?_⟩
  have hl355 : L349.length ≤ 1000000 := Nat.le_trans (joinN_len hL350) hl
  have hrt := joined_right hL350
  clear Z az; intro az Z
  refine L (r_lenL Tryz.underlying22 Z rfl) Z rfl ?_; clear Z az; intro az Z
  refine L (r_mv Z rfl) Z rfl ?_; clear Z az; intro az Z
  refine k344 _ _ ?_
  refine wp_block ?_
  refine wp_loop_m (fun mz az W => ∃ k : Nat, ∃ N : List Int, ∃ D : List Int, mz = L349.length - k ∧ Fr 91 [(3, .slice A335 (400) 400), (4, .slice A327 (400) 400), (15, .slice A347 (L349.length) c348), (16, .int .i64 (((L349.length : Nat) : Int))), (17, .int .i64 ((k : Int)))] az ∧ (k ≤ L349.length) ∧ (N = tabN (nextN (L349.take k))) ∧ (D = tabN (needN (L349.take k))) ∧ (N.length = 400) ∧ (D.length = 400) ∧ (∀ z ∈ N, 0 ≤ z ∧ z ≤ 400) ∧ (∀ z ∈ D, 0 ≤ z ∧ z ≤ 400) ∧ Only (orF (ownF (.slice A335 (400) 400)) (ownF (.slice A327 (400) 400))) w345 W ∧ W.ownsRow w328.heap.size 3 1 (.slice A335 (400) 400) 400 (List.flatMap KInt.cells N) ∧ W.ownsRow w3.heap.size 3 1 (.slice A327 (400) 400) 400 (List.flatMap KInt.cells D)) ?_ ?_
  ·
   have r356 := (ow_k r337 o346)
   have r357 := (ow_k (ow_k r329 o338) o346)
   exact ⟨_, 0, N339, N331, rfl, Z.cut ⟨rfl, rfl, rfl, rfl, rfl, trivial⟩, Nat.zero_le _, (hN340.trans tab_first), (hN332.trans tab_first2), hl341, hl333, (zero_bnd hN340), (zero_bnd hN332), (Only.refl (orF (ownF (.slice A335 (400) 400)) (ownF (.slice A327 (400) 400))) w345), r356, r357⟩
  clear Z az
  rintro mz az w358 ⟨k, N, D, hm360, Z, hk, hN, hD, hNl, hDl, bN, bD, o359, rN, rD⟩
  refine wp_seq_k fun _ k361 => wp_region_lit ?_
  refine L (r_ltI Z rfl rfl) Z rfl ?_; clear Z az; intro az Z
  refine k361 _ _ (wp_seq_k fun _ k362 => ?_)
  refine br Z rfl (fun hc363 => ?_) (fun hc363 => ?_)
  ·
   have p364 := of_decide_eq_true hc363
   refine wp_skip ?_
   refine k362 _ _ (wp_seq_k fun _ k365 => ?_)
   refine wp_block ?_
   refine wp_seq_k fun _ k366 => wp_region_lit ?_
   have hk367 : k < (L349).length := by omega
   have h373 := (SliceOf.kp hS351 o359 (ge_F (fun k h => (Or.elim h (fun h => (Nat.lt_of_lt_of_le ((ownF_lt r337) k h) (Nat.le_refl _))) (fun h => (Nat.lt_of_lt_of_le ((ownF_lt r329) k h) (size_only o338))))) (Nat.le_refl _)) (fun _ _ _ _ h => h))
   obtain ⟨m368, hm369, ok370, hA371⟩ := Row.el KN0 h373 hk367
   have E372 : ∀ W, Only NoF w358 W → CA W (eA A347 5 (k)) [.int .i64 (m368.h), .int .i64 (m368.n), .int .i64 (m368.d), .slice m368.A (m368.l.length) m368.c, strV (m368.s)] := Row.ce KN0 h373 hm369 rfl
   have hrb := right_bnd (hrt _ (List.mem_of_getElem? hm369))
   obtain ⟨q374, hq375⟩ : ∃ q : Nat, m368.h = (q : Int) := ⟨m368.h.toNat, by omega⟩
   have h377 := (SliceOf.kp (hN352 _ (List.mem_of_getElem? hm369)).2.2.2.1 o359 (ge_F (fun k h => (Or.elim h (fun h => (Nat.lt_of_lt_of_le ((ownF_lt r337) k h) (Nat.le_refl _))) (fun h => (Nat.lt_of_lt_of_le ((ownF_lt r329) k h) (size_only o338))))) (Nat.le_refl _)) (fun _ _ _ _ h => h))
   have h378 := SliceOf.pl h377
   have hl376 := SliceOf.len h378; unfold maxLen at hl376
   refine L (r_ia (k := k) (size := 5) Tryz.underlying22 Tryz.sizeOf43 Z rfl rfl rfl hk367 hA371) Z rfl ?_; clear Z az; intro az Z
   refine L (r_ldA Tryz.isAgg43 Tryz.sizeOf43 Z rfl (E372 _ (Only.refl NoF w358)) rfl) Z rfl ?_; clear Z az; intro az Z
   refine LAl (v := .agg #[.int .i64 (0), .int .i64 (0), .int .i64 (0), .slice none (0) 0, strV ([])]) Tryz.zeroValue43 Z rfl rfl ?_
   clear Z az; intro g379 w380 hg383 hl384 o381 B382 az Z
   refine LSt (cs' := [.int .i64 (m368.h), .int .i64 (m368.n), .int .i64 (m368.d), .slice m368.A (m368.l.length) m368.c, strV (m368.s)]) Tryz.sizeOf43 Z rfl rfl rfl rfl rfl ⟨rfl, rfl, rfl, rfl, rfl, trivial⟩ B382 rfl rfl fun w385 s386 B387 => ?_
   refine k366 _ _ (wp_seq_k fun _ k388 => ?_)
   refine wp_seq_k fun _ k389 => ?_
   refine reg_q [(true, 0), (true, 1), (true, 2), (true, 3), (true, 4), (true, 5), (true, 6), (true, 7)] (by kernel_rfl) (by kernel_rfl) (fun _ _ _ _ _ h => h) fun w390 o391 => ?_
   refine M (r_fa (m' := 1) Tryz.underlying43 rfl Tryz.sizeOf3 rfl Z rfl rfl) Z rfl rfl ?_; clear Z az; intro az Z
   have B392 := (Blk.k B387 o391)
   refine M (r_ld Tryz.isAgg3 Z rfl ((Blk.ca B392) 1 _ rfl)) Z rfl rfl ?_; clear Z az; intro az Z
   refine M (r_mv Z rfl) Z rfl rfl ?_; clear Z az; intro az Z
   refine M (r_fa (m' := 0) Tryz.underlying43 rfl Tryz.sizeOf3 rfl Z rfl rfl) Z rfl rfl ?_; clear Z az; intro az Z
   refine M (r_ld Tryz.isAgg3 Z rfl ((Blk.ca B392) 0 _ rfl)) Z rfl rfl ?_; clear Z az; intro az Z
   have O393 := (Only.trans (Only.trans (Only.refl (fun _ => True) w336) o346 (fun _ _ => .inl trivial)) o359 (fun _ _ => .inl trivial))
   have r394 := (ow_k (ow_only (ow_k rN o381) s386 (fun k hk => lt_F (oneF_ge hg383) (size_only O393) k (ownF_lt r337 k hk))) o391)
   have h395 := Row.ownN KInt r394 hNl (bnd_ok bN)
   have hk396 : q374 < 400 := by omega
   have hk397 : q374 < (N).length := by omega
   obtain ⟨m398, hm399, ok400, hA401⟩ := Row.el KInt h395 hk397
   have E402 : ∀ W, Only NoF w390 W → CA W (eA A335 1 (q374)) [.int .i64 (m398)] := Row.ce KInt h395 hm399 rfl
   have hb403 := bN m398 (List.mem_of_getElem? hm399)
   refine M (r_ia (k := q374) (size := 1) Tryz.underlying30 Tryz.sizeOf3 Z rfl rfl hq375 hk396 hA401) Z rfl rfl ?_; clear Z az; intro az Z
   refine M (r_ld Tryz.isAgg3 Z rfl (CA.first (E402 _ (Only.refl NoF w390)))) Z rfl rfl ?_; clear Z az; intro az Z
   refine M (r_eqI Z rfl rfl) Z rfl rfl ?_; clear Z az; intro az Z
   refine wpMix_nil ?_
   refine k389 _ _ ?_
   refine br Z rfl (fun hc404 => ?_) (fun hc404 => ?_)
   ·
    have p405 := of_decide_eq_true hc404
    refine wp_region_lit ?_
    refine L (r_mv Z rfl) Z rfl ?_; clear Z az; intro az Z
    refine L (r_fa (m' := 0) Tryz.underlying43 rfl Tryz.sizeOf3 rfl Z rfl rfl) Z rfl ?_; clear Z az; intro az Z
    refine L (r_ld Tryz.isAgg3 Z rfl ((Blk.ca B392) 0 _ rfl)) Z rfl ?_; clear Z az; intro az Z
    refine L (r_ia (k := q374) (size := 1) Tryz.underlying30 Tryz.sizeOf3 Z rfl rfl hq375 hk396 hA401) Z rfl ?_; clear Z az; intro az Z
    refine L (r_ld Tryz.isAgg3 Z rfl (CA.first (E402 _ (Only.refl NoF w390)))) Z rfl ?_; clear Z az; intro az Z
    have i406 : I64 ((m398 + 1)) := by unfold I64; omega
    refine L (r_addI (r := (m398 + 1)) Z rfl rfl rfl i406) Z rfl ?_; clear Z az; intro az Z
    refine L (r_ia (k := q374) (size := 1) Tryz.underlying30 Tryz.sizeOf3 Z rfl rfl hq375 hk396 hA401) Z rfl ?_; clear Z az; intro az Z
    have hk414 : q374 < 400 := by omega
    refine LStQ (k := q374) (x := (m398 + 1)) KInt Tryz.sizeOf3 Z rfl rfl rfl rfl r394 hNl hk414 fun w407 o408 r409 => ?_
    obtain ⟨N410, hN411⟩ : ∃ N0, N0 = List.set N q374 (m398 + 1) := ⟨_, rfl⟩
    rw [← hN411] at r409
    have hl412 : N410.length = 400 := by rw [hN411, List.length_set]; exact hNl
    have ok413 : ∀ zq ∈ N410, KInt.ok zq := by rw [hN411]; exact set_ok (bnd_ok bN) (by show I64 _; unfold I64; omega)
    have bd415 : ∀ z ∈ N410, 0 ≤ z ∧ z ≤ 400 := by rw [hN411]; exact bnd_set bN (by omega)
    refine k388 _ _ (wp_seq_k fun _ k416 => ?_)
    refine reg_p (ownF (.slice A327 (400) 400)) 0 [12] (.rd 0 (.rd 1 (.rd 2 (.rd 3 (.rd 4 (.rd 5 (.rd 6 (.rd 7 (.rd 8 (.rd 9 (.rd 10 (.rd 11 (.ex 12 .nil))))))))))))) (by kernel_rfl) (by kernel_rfl) (fun _ _ _ _ _ h => h) fun w417 o418 => ?_
    have B419 := (Blk.k (Blk.only B392 o408 (fun h => absurd ((ownF_lt r337) _ h) (Nat.not_lt.2 (Nat.le_trans (size_only O393) hg383)))) o418)
    refine Pl.MSP (b := true) (by kernel_rfl) (fun W oW => r_mv Z rfl) Z rfl rfl ?_; clear Z az; intro az Z
    refine Pl.MSP (b := true) (by kernel_rfl) (fun W oW => r_fa (m' := 0) Tryz.underlying43 rfl Tryz.sizeOf3 rfl Z rfl rfl) Z rfl rfl ?_; clear Z az; intro az Z
    refine Pl.MSP (b := true) (by kernel_rfl) (fun W oW => r_ld Tryz.isAgg3 Z rfl ((Blk.ca (Blk.k B419 oW)) 0 _ rfl)) Z rfl rfl ?_; clear Z az; intro az Z
    refine Pl.MSP (b := true) (by kernel_rfl) (fun W oW => r_mv Z rfl) Z rfl rfl ?_; clear Z az; intro az Z
    refine Pl.MSP (b := true) (by kernel_rfl) (fun W oW => r_fa (m' := 0) Tryz.underlying43 rfl Tryz.sizeOf3 rfl Z rfl rfl) Z rfl rfl ?_; clear Z az; intro az Z
    refine Pl.MSP (b := true) (by kernel_rfl) (fun W oW => r_ld Tryz.isAgg3 Z rfl ((Blk.ca (Blk.k B419 oW)) 0 _ rfl)) Z rfl rfl ?_; clear Z az; intro az Z
    have O420 := (Only.trans (Only.trans (Only.trans (Only.refl (fun _ => True) w328) o338 (fun _ _ => .inl trivial)) o346 (fun _ _ => .inl trivial)) o359 (fun _ _ => .inl trivial))
    have r421 := (ow_k (ow_only (ow_k (ow_only (ow_k rD o381) s386 (fun k hk => lt_F (oneF_ge hg383) (size_only O420) k (ownF_lt r329 k hk))) o391) o408 (fun k hk => lt_F (ownF_ge r337) (Nat.le_refl _) k (ownF_lt r329 k hk))) o418)
    have h422 := Row.ownN KInt r421 hDl (bnd_ok bD)
    have hk423 : q374 < 400 := by omega
    have hk424 : q374 < (D).length := by omega
    obtain ⟨m425, hm426, ok427, hA428⟩ := Row.el KInt h422 hk424
    have E429 : ∀ W, Only NoF w417 W → CA W (eA A327 1 (q374)) [.int .i64 (m425)] := Row.ce KInt h422 hm426 rfl
    have hb430 := bD m425 (List.mem_of_getElem? hm426)
    refine Pl.MSP (b := true) (by kernel_rfl) (fun W oW => r_ia (k := q374) (size := 1) Tryz.underlying30 Tryz.sizeOf3 Z rfl rfl hq375 hk423 hA428) Z rfl rfl ?_; clear Z az; intro az Z
    refine Pl.MSP (b := true) (by kernel_rfl) (fun W oW => r_ld Tryz.isAgg3 Z rfl (CA.first (E429 _ (Only.trans' (Only.refl NoF w417) oW)))) Z rfl rfl ?_; clear Z az; intro az Z
    refine Pl.MSP (b := true) (by kernel_rfl) (fun W oW => r_fa (m' := 1) Tryz.underlying43 rfl Tryz.sizeOf3 rfl Z rfl rfl) Z rfl rfl ?_; clear Z az; intro az Z
    refine Pl.MSP (b := true) (by kernel_rfl) (fun W oW => r_ld Tryz.isAgg3 Z rfl ((Blk.ca (Blk.k B419 oW)) 1 _ rfl)) Z rfl rfl ?_; clear Z az; intro az Z
    refine Pl.MSP (b := true) (by kernel_rfl) (fun W oW => r_max Z rfl rfl) Z rfl rfl ?_; clear Z az; intro az Z
    refine Pl.MSP (b := true) (by kernel_rfl) (fun W oW => r_ia (k := q374) (size := 1) Tryz.underlying30 Tryz.sizeOf3 Z rfl rfl hq375 hk423 hA428) Z rfl rfl ?_; clear Z az; intro az Z
    have hk438 : q374 < 400 := by omega
    refine Pl.MSSQ (k := q374) (x := (max (m425) (m368.n))) KInt Tryz.sizeOf3 Z rfl rfl rfl rfl rfl r421 hDl hk438 fun w431 o432 r433 => ?_
    obtain ⟨N434, hN435⟩ : ∃ N0, N0 = List.set D q374 (max (m425) (m368.n)) := ⟨_, rfl⟩
    rw [← hN435] at r433
    have hl436 : N434.length = 400 := by rw [hN435, List.length_set]; exact hDl
    have ok437 : ∀ zq ∈ N434, KInt.ok zq := by rw [hN435]; exact set_ok (bnd_ok bD) (by show I64 _; unfold I64; omega)
    refine ⟨⟨fun h => absurd h (by decide), (Only.trans (Only.refl (ownF (.slice A327 (400) 400)) w417) o432 (fun _ h => .inl h))⟩, ?_⟩
    have bd439 : ∀ z ∈ N434, 0 ≤ z ∧ z ≤ 400 := by rw [hN435]; exact bnd_set bD (by omega)
    refine wpPl_nil ?_
    refine k416 _ _ (wp_seq_k fun _ k440 => wp_region_lit ?_)
    refine L (r_fa (m' := 3) Tryz.underlying43 rfl Tryz.sizeOf35 rfl Z rfl rfl) Z rfl ?_; clear Z az; intro az Z
    have B441 := (Blk.only B419 o432 (fun h => absurd ((ownF_lt r329) _ h) (Nat.not_lt.2 (Nat.le_trans (size_only O420) hg383))))
    refine L (r_ld Tryz.isAgg35 Z rfl ((Blk.ca B441) 3 _ rfl)) Z rfl ?_; clear Z az; intro az Z
    refine L (r_lenL Tryz.underlying35 Z rfl) Z rfl ?_; clear Z az; intro az Z
    refine L (r_mv Z rfl) Z rfl ?_; clear Z az; intro az Z
    refine k440 _ _ ?_
    refine wp_block ?_
    refine wp_loop_m (fun mz az W => ∃ i : Nat, ∃ Di : List Int, mz = m368.l.length - i ∧ Fr 91 [(3, .slice A335 (400) 400), (4, .slice A327 (400) 400), (15, .slice A347 (L349.length) c348), (16, .int .i64 (((L349.length : Nat) : Int))), (17, .int .i64 ((k : Int))), (49, .slice m368.A (m368.l.length) m368.c), (50, .int .i64 (((m368.l.length : Nat) : Int))), (51, .int .i64 ((i : Int)))] az ∧ (i ≤ m368.l.length) ∧ (Di = tabN fun h => (m368.l.take i).foldl (wantR h) (wantH h (needN (L349.take k) h) m368)) ∧ (Di.length = 400) ∧ (∀ z ∈ Di, 0 ≤ z ∧ z ≤ 400) ∧ Only (ownF (.slice A327 (400) 400)) w431 W ∧ W.ownsRow w3.heap.size 3 1 (.slice A327 (400) 400) 400 (List.flatMap KInt.cells Di)) ?_ ?_
    ·
     exact ⟨_, 0, N434, rfl, Z.cut ⟨rfl, rfl, rfl, rfl, rfl, rfl, rfl, rfl, trivial⟩, Nat.zero_le _, (hN435.trans (nd_own hq375 (by omega) hD hm426)), hl436, bd439, (Only.refl (ownF (.slice A327 (400) 400)) w431), r433⟩
    clear Z az
    rintro mz az w442 ⟨i, Di, hm444, Z, hi, hDi, hDil, bDi, o443, rDi⟩
    refine wp_seq_k fun _ k445 => wp_region_lit ?_
    refine L (r_ltI Z rfl rfl) Z rfl ?_; clear Z az; intro az Z
    refine k445 _ _ (wp_seq_k fun _ k446 => ?_)
    refine br Z rfl (fun hc447 => ?_) (fun hc447 => ?_)
    ·
     have p448 := of_decide_eq_true hc447
     refine wp_skip ?_
     refine k446 _ _ (wp_seq_k fun _ k449 => ?_)
     refine wp_block ?_
     refine wp_seq_k fun _ k450 => wp_region_lit ?_
     have hk451 : i < (m368.l).length := by omega
     have h457 := SliceOf.rg (hN352 _ (List.mem_of_getElem? hm369)).2.2.2.1
     have O458 : Only NoF w358 w390 := (Only.trans' (o_sg o381 s386 (Nat.le_refl _) (oneF_ge hg383)) o391)
     have h459 := (SliceOf.kp (SliceOf.kp (SliceOf.kp (SliceOf.kp (SliceOf.kp (SliceOf.kp h457 o359 (fun k hk => ge_F (fun k h => (Or.elim h (fun h => (Nat.lt_of_lt_of_le ((ownF_lt r337) k h) (Nat.le_refl _))) (fun h => (Nat.lt_of_lt_of_le ((ownF_lt r329) k h) (size_only o338))))) (Nat.le_refl _) k hk.1) (fun _ _ _ _ h => h)) O458 (fun _ _ h => h) (fun _ _ _ _ h => h)) o408 (fun k hk => ge_F (ownF_lt r337) (Nat.le_refl _) k hk.1) (fun _ _ _ _ h => h)) o418 (fun _ _ h => h) (fun _ _ _ _ h => h)) o432 (fun k hk => ge_F (ownF_lt r329) (size_only o338) k hk.1) (fun _ _ _ _ h => h)) o443 (fun k hk => ge_F (ownF_lt r329) (size_only o338) k hk.1) (fun _ _ _ _ h => h))
     obtain ⟨m452, hm453, ok454, hA455⟩ := Row.el KRef h459 hk451
     have E456 : ∀ W, Only NoF w442 W → CA W (eA m368.A 2 (i)) [.int .i64 (m452.h), .int .i64 (m452.n)] := Row.ce KRef h459 hm453 rfl
     have hrr := ref_bnd (hrt _ (List.mem_of_getElem? hm369)) hm453
     obtain ⟨q460, hq461⟩ : ∃ q : Nat, m452.h = (q : Int) := ⟨m452.h.toNat, by omega⟩
     refine L (r_ia (k := i) (size := 2) Tryz.underlying35 Tryz.sizeOf59 Z rfl rfl rfl hk451 hA455) Z rfl ?_; clear Z az; intro az Z
     refine L (r_ldA Tryz.isAgg59 Tryz.sizeOf59 Z rfl (E456 _ (Only.refl NoF w442)) rfl) Z rfl ?_; clear Z az; intro az Z
     refine LAl (v := .agg #[.int .i64 (0), .int .i64 (0)]) Tryz.zeroValue59 Z rfl rfl ?_
     clear Z az; intro g462 w463 hg466 hl467 o464 B465 az Z
     refine LSt (cs' := [.int .i64 (m452.h), .int .i64 (m452.n)]) Tryz.sizeOf59 Z rfl rfl rfl rfl rfl ⟨rfl, rfl, trivial⟩ B465 rfl rfl fun w468 s469 B470 => ?_
     refine k450 _ _ ?_
     refine reg_p (ownF (.slice A327 (400) 400)) 0 [13] (.rd 0 (.rd 1 (.rd 2 (.rd 3 (.rd 4 (.rd 5 (.rd 6 (.rd 7 (.rd 8 (.rd 9 (.rd 10 (.rd 11 (.rd 12 (.ex 13 .nil)))))))))))))) (by kernel_rfl) (by kernel_rfl) (fun _ _ _ _ _ h => h) fun w471 o472 => ?_
     have B473 := (Blk.k B470 o472)
     refine Pl.MSP (b := true) (by kernel_rfl) (fun W oW => r_mv Z rfl) Z rfl rfl ?_; clear Z az; intro az Z
     refine Pl.MSP (b := true) (by kernel_rfl) (fun W oW => r_fa (m' := 0) Tryz.underlying59 rfl Tryz.sizeOf3 rfl Z rfl rfl) Z rfl rfl ?_; clear Z az; intro az Z
     refine Pl.MSP (b := true) (by kernel_rfl) (fun W oW => r_ld Tryz.isAgg3 Z rfl ((Blk.ca (Blk.k B473 oW)) 0 _ rfl)) Z rfl rfl ?_; clear Z az; intro az Z
     refine Pl.MSP (b := true) (by kernel_rfl) (fun W oW => r_mv Z rfl) Z rfl rfl ?_; clear Z az; intro az Z
     refine Pl.MSP (b := true) (by kernel_rfl) (fun W oW => r_fa (m' := 0) Tryz.underlying59 rfl Tryz.sizeOf3 rfl Z rfl rfl) Z rfl rfl ?_; clear Z az; intro az Z
     refine Pl.MSP (b := true) (by kernel_rfl) (fun W oW => r_ld Tryz.isAgg3 Z rfl ((Blk.ca (Blk.k B473 oW)) 0 _ rfl)) Z rfl rfl ?_; clear Z az; intro az Z
     have O474 := (Only.trans (Only.trans (Only.trans (Only.trans (Only.trans (Only.trans (Only.trans (Only.trans (Only.trans (Only.trans (Only.refl (fun _ => True) w328) o338 (fun _ _ => .inl trivial)) o346 (fun _ _ => .inl trivial)) o359 (fun _ _ => .inl trivial)) o381 (fun _ _ => .inl trivial)) s386 (fun _ _ => .inl trivial)) o391 (fun _ _ => .inl trivial)) o408 (fun _ _ => .inl trivial)) o418 (fun _ _ => .inl trivial)) o432 (fun _ _ => .inl trivial)) o443 (fun _ _ => .inl trivial))
     have r475 := (ow_k (ow_only (ow_k rDi o464) s469 (fun k hk => lt_F (oneF_ge hg466) (size_only O474) k (ownF_lt r329 k hk))) o472)
     have h476 := Row.ownN KInt r475 hDil (bnd_ok bDi)
     have hk477 : q460 < 400 := by omega
     have hk478 : q460 < (Di).length := by omega
     obtain ⟨m479, hm480, ok481, hA482⟩ := Row.el KInt h476 hk478
     have E483 : ∀ W, Only NoF w471 W → CA W (eA A327 1 (q460)) [.int .i64 (m479)] := Row.ce KInt h476 hm480 rfl
     have hb484 := bDi m479 (List.mem_of_getElem? hm480)
     refine Pl.MSP (b := true) (by kernel_rfl) (fun W oW => r_ia (k := q460) (size := 1) Tryz.underlying30 Tryz.sizeOf3 Z rfl rfl hq461 hk477 hA482) Z rfl rfl ?_; clear Z az; intro az Z
     refine Pl.MSP (b := true) (by kernel_rfl) (fun W oW => r_ld Tryz.isAgg3 Z rfl (CA.first (E483 _ (Only.trans' (Only.refl NoF w471) oW)))) Z rfl rfl ?_; clear Z az; intro az Z
     refine Pl.MSP (b := true) (by kernel_rfl) (fun W oW => r_fa (m' := 1) Tryz.underlying59 rfl Tryz.sizeOf3 rfl Z rfl rfl) Z rfl rfl ?_; clear Z az; intro az Z
     refine Pl.MSP (b := true) (by kernel_rfl) (fun W oW => r_ld Tryz.isAgg3 Z rfl ((Blk.ca (Blk.k B473 oW)) 1 _ rfl)) Z rfl rfl ?_; clear Z az; intro az Z
     have i485 : I64 ((m452.n + 1)) := by unfold I64; omega
     refine Pl.MSP (b := true) (by kernel_rfl) (fun W oW => r_addI (r := (m452.n + 1)) Z rfl rfl rfl i485) Z rfl rfl ?_; clear Z az; intro az Z
     refine Pl.MSP (b := true) (by kernel_rfl) (fun W oW => r_max Z rfl rfl) Z rfl rfl ?_; clear Z az; intro az Z
     refine Pl.MSP (b := true) (by kernel_rfl) (fun W oW => r_ia (k := q460) (size := 1) Tryz.underlying30 Tryz.sizeOf3 Z rfl rfl hq461 hk477 hA482) Z rfl rfl ?_; clear Z az; intro az Z
     have hk493 : q460 < 400 := by omega
     refine Pl.MSSQ (k := q460) (x := (max (m479) ((m452.n + 1)))) KInt Tryz.sizeOf3 Z rfl rfl rfl rfl rfl r475 hDil hk493 fun w486 o487 r488 => ?_
     obtain ⟨N489, hN490⟩ : ∃ N0, N0 = List.set Di q460 (max (m479) ((m452.n + 1))) := ⟨_, rfl⟩
     rw [← hN490] at r488
     have hl491 : N489.length = 400 := by rw [hN490, List.length_set]; exact hDil
     have ok492 : ∀ zq ∈ N489, KInt.ok zq := by rw [hN490]; exact set_ok (bnd_ok bDi) (by show I64 _; unfold I64; omega)
     refine ⟨⟨fun h => absurd h (by decide), (Only.trans (Only.refl (ownF (.slice A327 (400) 400)) w471) o487 (fun _ h => .inl h))⟩, ?_⟩
     have bd494 : ∀ z ∈ N489, 0 ≤ z ∧ z ≤ 400 := by rw [hN490]; exact bnd_set bDi (by omega)
     refine wpPl_nil ?_
     refine k449 _ _ ?_
     refine wp_region_lit ?_
     have i495 : I64 (((i : Int) + 1)) := by unfold I64; omega
     refine L (r_addI (r := ((i : Int) + 1)) Z rfl rfl rfl i495) Z rfl ?_; clear Z az; intro az Z
     refine L (r_mv Z rfl) Z rfl ?_; clear Z az; intro az Z
     have O496 := (Only.trans (Only.refl (fun _ => True) w431) o443 (fun _ _ => .inl trivial))
     exact ⟨_, (by omega), i + 1, N489, rfl, Z.cut ⟨rfl, rfl, rfl, rfl, rfl, rfl, rfl, rfl, trivial⟩, (by omega), (hN490.trans (nd_ref hm453 hq461 (by omega) hDi hm480)), hl491, bd494, (Only.trans (Only.trans (Only.trans (Only.trans (Only.trans (Only.refl (ownF (.slice A327 (400) 400)) w431) o443 (fun _ h => .inl h)) o464 (fun _ h => h.elim)) s469 (fun k h => .inr (Nat.le_trans (size_only O496) ((oneF_ge hg466) k h)))) o472 (fun _ h => h.elim)) o487 (fun _ h => .inl h)), r488⟩
    ·
     have p497 := of_decide_eq_false hc447
     refine wp_exit ?_
     refine th_exit ?_
     refine th_exit ?_
     refine ib_hit ?_
     refine k365 _ _ ?_
     refine wp_region_lit ?_
     have i498 : I64 (((k : Int) + 1)) := by unfold I64; omega
     refine L (r_addI (r := ((k : Int) + 1)) Z rfl rfl rfl i498) Z rfl ?_; clear Z az; intro az Z
     refine L (r_mv Z rfl) Z rfl ?_; clear Z az; intro az Z
     have O499 := (Only.trans (Only.refl (fun _ => True) w345) o359 (fun _ _ => .inl trivial))
     have r500 := (ow_only (ow_only (ow_k r409 o418) o432 (fun k hk => ge_F (ownF_lt r329) (Nat.le_refl _) k (ownF_ge (ow_k r409 o418) k hk))) o443 (fun k hk => ge_F (ownF_lt r329) (Nat.le_refl _) k (ownF_ge (ow_only (ow_k r409 o418) o432 (fun k hk => ge_F (ownF_lt r329) (Nat.le_refl _) k (ownF_ge (ow_k r409 o418) k hk))) k hk)))
     exact ⟨_, (by omega), k + 1, N410, Di, rfl, Z.cut ⟨rfl, rfl, rfl, rfl, rfl, trivial⟩, (by omega), (hN411.trans (nx_yes hm369 hq375 (by omega) hN hm399 (of_decide_eq_true hc404))), (nd_end hm369 (by omega) hDi), hl412, hDil, bd415, bDi, (Only.trans (Only.trans (Only.trans (Only.trans (Only.trans (Only.trans (Only.trans (Only.trans (Only.refl (orF (ownF (.slice A335 (400) 400)) (ownF (.slice A327 (400) 400))) w345) o359 (fun _ h => .inl h)) o381 (fun _ h => h.elim)) s386 (fun k h => .inr (Nat.le_trans (size_only O499) ((oneF_ge hg383) k h)))) o391 (fun _ h => h.elim)) o408 (fun _ h => .inl (.inl h))) o418 (fun _ h => h.elim)) o432 (fun _ h => .inl (.inr h))) o443 (fun _ h => .inl (.inr h))), r500, rDi⟩
   ·
    have p501 := of_decide_eq_false hc404
    refine wp_skip ?_
    refine k388 _ _ (wp_seq_k fun _ k502 => ?_)
    refine reg_p (ownF (.slice A327 (400) 400)) 0 [12] (.rd 0 (.rd 1 (.rd 2 (.rd 3 (.rd 4 (.rd 5 (.rd 6 (.rd 7 (.rd 8 (.rd 9 (.rd 10 (.rd 11 (.ex 12 .nil))))))))))))) (by kernel_rfl) (by kernel_rfl) (fun _ _ _ _ _ h => h) fun w503 o504 => ?_
    have B505 := (Blk.k B392 o504)
    refine Pl.MSP (b := true) (by kernel_rfl) (fun W oW => r_mv Z rfl) Z rfl rfl ?_; clear Z az; intro az Z
    refine Pl.MSP (b := true) (by kernel_rfl) (fun W oW => r_fa (m' := 0) Tryz.underlying43 rfl Tryz.sizeOf3 rfl Z rfl rfl) Z rfl rfl ?_; clear Z az; intro az Z
    refine Pl.MSP (b := true) (by kernel_rfl) (fun W oW => r_ld Tryz.isAgg3 Z rfl ((Blk.ca (Blk.k B505 oW)) 0 _ rfl)) Z rfl rfl ?_; clear Z az; intro az Z
    refine Pl.MSP (b := true) (by kernel_rfl) (fun W oW => r_mv Z rfl) Z rfl rfl ?_; clear Z az; intro az Z
    refine Pl.MSP (b := true) (by kernel_rfl) (fun W oW => r_fa (m' := 0) Tryz.underlying43 rfl Tryz.sizeOf3 rfl Z rfl rfl) Z rfl rfl ?_; clear Z az; intro az Z
    refine Pl.MSP (b := true) (by kernel_rfl) (fun W oW => r_ld Tryz.isAgg3 Z rfl ((Blk.ca (Blk.k B505 oW)) 0 _ rfl)) Z rfl rfl ?_; clear Z az; intro az Z
    have O506 := (Only.trans (Only.trans (Only.trans (Only.refl (fun _ => True) w328) o338 (fun _ _ => .inl trivial)) o346 (fun _ _ => .inl trivial)) o359 (fun _ _ => .inl trivial))
    have r507 := (ow_k (ow_k (ow_only (ow_k rD o381) s386 (fun k hk => lt_F (oneF_ge hg383) (size_only O506) k (ownF_lt r329 k hk))) o391) o504)
    have h508 := Row.ownN KInt r507 hDl (bnd_ok bD)
    have hk509 : q374 < 400 := by omega
    have hk510 : q374 < (D).length := by omega
    obtain ⟨m511, hm512, ok513, hA514⟩ := Row.el KInt h508 hk510
    have E515 : ∀ W, Only NoF w503 W → CA W (eA A327 1 (q374)) [.int .i64 (m511)] := Row.ce KInt h508 hm512 rfl
    have hb516 := bD m511 (List.mem_of_getElem? hm512)
    refine Pl.MSP (b := true) (by kernel_rfl) (fun W oW => r_ia (k := q374) (size := 1) Tryz.underlying30 Tryz.sizeOf3 Z rfl rfl hq375 hk509 hA514) Z rfl rfl ?_; clear Z az; intro az Z
    refine Pl.MSP (b := true) (by kernel_rfl) (fun W oW => r_ld Tryz.isAgg3 Z rfl (CA.first (E515 _ (Only.trans' (Only.refl NoF w503) oW)))) Z rfl rfl ?_; clear Z az; intro az Z
    refine Pl.MSP (b := true) (by kernel_rfl) (fun W oW => r_fa (m' := 1) Tryz.underlying43 rfl Tryz.sizeOf3 rfl Z rfl rfl) Z rfl rfl ?_; clear Z az; intro az Z
    refine Pl.MSP (b := true) (by kernel_rfl) (fun W oW => r_ld Tryz.isAgg3 Z rfl ((Blk.ca (Blk.k B505 oW)) 1 _ rfl)) Z rfl rfl ?_; clear Z az; intro az Z
    refine Pl.MSP (b := true) (by kernel_rfl) (fun W oW => r_max Z rfl rfl) Z rfl rfl ?_; clear Z az; intro az Z
    refine Pl.MSP (b := true) (by kernel_rfl) (fun W oW => r_ia (k := q374) (size := 1) Tryz.underlying30 Tryz.sizeOf3 Z rfl rfl hq375 hk509 hA514) Z rfl rfl ?_; clear Z az; intro az Z
    have hk524 : q374 < 400 := by omega
    refine Pl.MSSQ (k := q374) (x := (max (m511) (m368.n))) KInt Tryz.sizeOf3 Z rfl rfl rfl rfl rfl r507 hDl hk524 fun w517 o518 r519 => ?_
    obtain ⟨N520, hN521⟩ : ∃ N0, N0 = List.set D q374 (max (m511) (m368.n)) := ⟨_, rfl⟩
    rw [← hN521] at r519
    have hl522 : N520.length = 400 := by rw [hN521, List.length_set]; exact hDl
    have ok523 : ∀ zq ∈ N520, KInt.ok zq := by rw [hN521]; exact set_ok (bnd_ok bD) (by show I64 _; unfold I64; omega)
    refine ⟨⟨fun h => absurd h (by decide), (Only.trans (Only.refl (ownF (.slice A327 (400) 400)) w503) o518 (fun _ h => .inl h))⟩, ?_⟩
    have bd525 : ∀ z ∈ N520, 0 ≤ z ∧ z ≤ 400 := by rw [hN521]; exact bnd_set bD (by omega)
    refine wpPl_nil ?_
    refine k502 _ _ (wp_seq_k fun _ k526 => wp_region_lit ?_)
    refine L (r_fa (m' := 3) Tryz.underlying43 rfl Tryz.sizeOf35 rfl Z rfl rfl) Z rfl ?_; clear Z az; intro az Z
    have B527 := (Blk.only B505 o518 (fun h => absurd ((ownF_lt r329) _ h) (Nat.not_lt.2 (Nat.le_trans (size_only O506) hg383))))
    refine L (r_ld Tryz.isAgg35 Z rfl ((Blk.ca B527) 3 _ rfl)) Z rfl ?_; clear Z az; intro az Z
    refine L (r_lenL Tryz.underlying35 Z rfl) Z rfl ?_; clear Z az; intro az Z
    refine L (r_mv Z rfl) Z rfl ?_; clear Z az; intro az Z
    refine k526 _ _ ?_
    refine wp_block ?_
    refine wp_loop_m (fun mz az W => ∃ i : Nat, ∃ Di : List Int, mz = m368.l.length - i ∧ Fr 91 [(3, .slice A335 (400) 400), (4, .slice A327 (400) 400), (15, .slice A347 (L349.length) c348), (16, .int .i64 (((L349.length : Nat) : Int))), (17, .int .i64 ((k : Int))), (49, .slice m368.A (m368.l.length) m368.c), (50, .int .i64 (((m368.l.length : Nat) : Int))), (51, .int .i64 ((i : Int)))] az ∧ (i ≤ m368.l.length) ∧ (Di = tabN fun h => (m368.l.take i).foldl (wantR h) (wantH h (needN (L349.take k) h) m368)) ∧ (Di.length = 400) ∧ (∀ z ∈ Di, 0 ≤ z ∧ z ≤ 400) ∧ Only (ownF (.slice A327 (400) 400)) w517 W ∧ W.ownsRow w3.heap.size 3 1 (.slice A327 (400) 400) 400 (List.flatMap KInt.cells Di)) ?_ ?_
    ·
     exact ⟨_, 0, N520, rfl, Z.cut ⟨rfl, rfl, rfl, rfl, rfl, rfl, rfl, rfl, trivial⟩, Nat.zero_le _, (hN521.trans (nd_own hq375 (by omega) hD hm512)), hl522, bd525, (Only.refl (ownF (.slice A327 (400) 400)) w517), r519⟩
    clear Z az
    rintro mz az w528 ⟨i, Di, hm530, Z, hi, hDi, hDil, bDi, o529, rDi⟩
    refine wp_seq_k fun _ k531 => wp_region_lit ?_
    refine L (r_ltI Z rfl rfl) Z rfl ?_; clear Z az; intro az Z
    refine k531 _ _ (wp_seq_k fun _ k532 => ?_)
    refine br Z rfl (fun hc533 => ?_) (fun hc533 => ?_)
    ·
     have p534 := of_decide_eq_true hc533
     refine wp_skip ?_
     refine k532 _ _ (wp_seq_k fun _ k535 => ?_)
     refine wp_block ?_
     refine wp_seq_k fun _ k536 => wp_region_lit ?_
     have hk537 : i < (m368.l).length := by omega
     have h543 := SliceOf.rg (hN352 _ (List.mem_of_getElem? hm369)).2.2.2.1
     have O544 : Only NoF w358 w503 := (Only.trans' (Only.trans' (o_sg o381 s386 (Nat.le_refl _) (oneF_ge hg383)) o391) o504)
     have h545 := (SliceOf.kp (SliceOf.kp (SliceOf.kp (SliceOf.kp h543 o359 (fun k hk => ge_F (fun k h => (Or.elim h (fun h => (Nat.lt_of_lt_of_le ((ownF_lt r337) k h) (Nat.le_refl _))) (fun h => (Nat.lt_of_lt_of_le ((ownF_lt r329) k h) (size_only o338))))) (Nat.le_refl _) k hk.1) (fun _ _ _ _ h => h)) O544 (fun _ _ h => h) (fun _ _ _ _ h => h)) o518 (fun k hk => ge_F (ownF_lt r329) (size_only o338) k hk.1) (fun _ _ _ _ h => h)) o529 (fun k hk => ge_F (ownF_lt r329) (size_only o338) k hk.1) (fun _ _ _ _ h => h))
     obtain ⟨m538, hm539, ok540, hA541⟩ := Row.el KRef h545 hk537
     have E542 : ∀ W, Only NoF w528 W → CA W (eA m368.A 2 (i)) [.int .i64 (m538.h), .int .i64 (m538.n)] := Row.ce KRef h545 hm539 rfl
     have hrr := ref_bnd (hrt _ (List.mem_of_getElem? hm369)) hm539
     obtain ⟨q546, hq547⟩ : ∃ q : Nat, m538.h = (q : Int) := ⟨m538.h.toNat, by omega⟩
     refine L (r_ia (k := i) (size := 2) Tryz.underlying35 Tryz.sizeOf59 Z rfl rfl rfl hk537 hA541) Z rfl ?_; clear Z az; intro az Z
     refine L (r_ldA Tryz.isAgg59 Tryz.sizeOf59 Z rfl (E542 _ (Only.refl NoF w528)) rfl) Z rfl ?_; clear Z az; intro az Z
     refine LAl (v := .agg #[.int .i64 (0), .int .i64 (0)]) Tryz.zeroValue59 Z rfl rfl ?_
     clear Z az; intro g548 w549 hg552 hl553 o550 B551 az Z
     refine LSt (cs' := [.int .i64 (m538.h), .int .i64 (m538.n)]) Tryz.sizeOf59 Z rfl rfl rfl rfl rfl ⟨rfl, rfl, trivial⟩ B551 rfl rfl fun w554 s555 B556 => ?_
     refine k536 _ _ ?_
     refine reg_p (ownF (.slice A327 (400) 400)) 0 [13] (.rd 0 (.rd 1 (.rd 2 (.rd 3 (.rd 4 (.rd 5 (.rd 6 (.rd 7 (.rd 8 (.rd 9 (.rd 10 (.rd 11 (.rd 12 (.ex 13 .nil)))))))))))))) (by kernel_rfl) (by kernel_rfl) (fun _ _ _ _ _ h => h) fun w557 o558 => ?_
     have B559 := (Blk.k B556 o558)
     refine Pl.MSP (b := true) (by kernel_rfl) (fun W oW => r_mv Z rfl) Z rfl rfl ?_; clear Z az; intro az Z
     refine Pl.MSP (b := true) (by kernel_rfl) (fun W oW => r_fa (m' := 0) Tryz.underlying59 rfl Tryz.sizeOf3 rfl Z rfl rfl) Z rfl rfl ?_; clear Z az; intro az Z
     refine Pl.MSP (b := true) (by kernel_rfl) (fun W oW => r_ld Tryz.isAgg3 Z rfl ((Blk.ca (Blk.k B559 oW)) 0 _ rfl)) Z rfl rfl ?_; clear Z az; intro az Z
     refine Pl.MSP (b := true) (by kernel_rfl) (fun W oW => r_mv Z rfl) Z rfl rfl ?_; clear Z az; intro az Z
     refine Pl.MSP (b := true) (by kernel_rfl) (fun W oW => r_fa (m' := 0) Tryz.underlying59 rfl Tryz.sizeOf3 rfl Z rfl rfl) Z rfl rfl ?_; clear Z az; intro az Z
     refine Pl.MSP (b := true) (by kernel_rfl) (fun W oW => r_ld Tryz.isAgg3 Z rfl ((Blk.ca (Blk.k B559 oW)) 0 _ rfl)) Z rfl rfl ?_; clear Z az; intro az Z
     have O560 := (Only.trans (Only.trans (Only.trans (Only.trans (Only.trans (Only.trans (Only.trans (Only.trans (Only.trans (Only.refl (fun _ => True) w328) o338 (fun _ _ => .inl trivial)) o346 (fun _ _ => .inl trivial)) o359 (fun _ _ => .inl trivial)) o381 (fun _ _ => .inl trivial)) s386 (fun _ _ => .inl trivial)) o391 (fun _ _ => .inl trivial)) o504 (fun _ _ => .inl trivial)) o518 (fun _ _ => .inl trivial)) o529 (fun _ _ => .inl trivial))
     have r561 := (ow_k (ow_only (ow_k rDi o550) s555 (fun k hk => lt_F (oneF_ge hg552) (size_only O560) k (ownF_lt r329 k hk))) o558)
     have h562 := Row.ownN KInt r561 hDil (bnd_ok bDi)
     have hk563 : q546 < 400 := by omega
     have hk564 : q546 < (Di).length := by omega
     obtain ⟨m565, hm566, ok567, hA568⟩ := Row.el KInt h562 hk564
     have E569 : ∀ W, Only NoF w557 W → CA W (eA A327 1 (q546)) [.int .i64 (m565)] := Row.ce KInt h562 hm566 rfl
     have hb570 := bDi m565 (List.mem_of_getElem? hm566)
     refine Pl.MSP (b := true) (by kernel_rfl) (fun W oW => r_ia (k := q546) (size := 1) Tryz.underlying30 Tryz.sizeOf3 Z rfl rfl hq547 hk563 hA568) Z rfl rfl ?_; clear Z az; intro az Z
     refine Pl.MSP (b := true) (by kernel_rfl) (fun W oW => r_ld Tryz.isAgg3 Z rfl (CA.first (E569 _ (Only.trans' (Only.refl NoF w557) oW)))) Z rfl rfl ?_; clear Z az; intro az Z
     refine Pl.MSP (b := true) (by kernel_rfl) (fun W oW => r_fa (m' := 1) Tryz.underlying59 rfl Tryz.sizeOf3 rfl Z rfl rfl) Z rfl rfl ?_; clear Z az; intro az Z
     refine Pl.MSP (b := true) (by kernel_rfl) (fun W oW => r_ld Tryz.isAgg3 Z rfl ((Blk.ca (Blk.k B559 oW)) 1 _ rfl)) Z rfl rfl ?_; clear Z az; intro az Z
     have i571 : I64 ((m538.n + 1)) := by unfold I64; omega
     refine Pl.MSP (b := true) (by kernel_rfl) (fun W oW => r_addI (r := (m538.n + 1)) Z rfl rfl rfl i571) Z rfl rfl ?_; clear Z az; intro az Z
     refine Pl.MSP (b := true) (by kernel_rfl) (fun W oW => r_max Z rfl rfl) Z rfl rfl ?_; clear Z az; intro az Z
     refine Pl.MSP (b := true) (by kernel_rfl) (fun W oW => r_ia (k := q546) (size := 1) Tryz.underlying30 Tryz.sizeOf3 Z rfl rfl hq547 hk563 hA568) Z rfl rfl ?_; clear Z az; intro az Z
     have hk579 : q546 < 400 := by omega
     refine Pl.MSSQ (k := q546) (x := (max (m565) ((m538.n + 1)))) KInt Tryz.sizeOf3 Z rfl rfl rfl rfl rfl r561 hDil hk579 fun w572 o573 r574 => ?_
     obtain ⟨N575, hN576⟩ : ∃ N0, N0 = List.set Di q546 (max (m565) ((m538.n + 1))) := ⟨_, rfl⟩
     rw [← hN576] at r574
     have hl577 : N575.length = 400 := by rw [hN576, List.length_set]; exact hDil
     have ok578 : ∀ zq ∈ N575, KInt.ok zq := by rw [hN576]; exact set_ok (bnd_ok bDi) (by show I64 _; unfold I64; omega)
     refine ⟨⟨fun h => absurd h (by decide), (Only.trans (Only.refl (ownF (.slice A327 (400) 400)) w557) o573 (fun _ h => .inl h))⟩, ?_⟩
     have bd580 : ∀ z ∈ N575, 0 ≤ z ∧ z ≤ 400 := by rw [hN576]; exact bnd_set bDi (by omega)
     refine wpPl_nil ?_
     refine k535 _ _ ?_
     refine wp_region_lit ?_
     have i581 : I64 (((i : Int) + 1)) := by unfold I64; omega
     refine L (r_addI (r := ((i : Int) + 1)) Z rfl rfl rfl i581) Z rfl ?_; clear Z az; intro az Z
     refine L (r_mv Z rfl) Z rfl ?_; clear Z az; intro az Z
     have O582 := (Only.trans (Only.refl (fun _ => True) w517) o529 (fun _ _ => .inl trivial))
     exact ⟨_, (by omega), i + 1, N575, rfl, Z.cut ⟨rfl, rfl, rfl, rfl, rfl, rfl, rfl, rfl, trivial⟩, (by omega), (hN576.trans (nd_ref hm539 hq547 (by omega) hDi hm566)), hl577, bd580, (Only.trans (Only.trans (Only.trans (Only.trans (Only.trans (Only.refl (ownF (.slice A327 (400) 400)) w517) o529 (fun _ h => .inl h)) o550 (fun _ h => h.elim)) s555 (fun k h => .inr (Nat.le_trans (size_only O582) ((oneF_ge hg552) k h)))) o558 (fun _ h => h.elim)) o573 (fun _ h => .inl h)), r574⟩
    ·
     have p583 := of_decide_eq_false hc533
     refine wp_exit ?_
     refine th_exit ?_
     refine th_exit ?_
     refine ib_hit ?_
     refine k365 _ _ ?_
     refine wp_region_lit ?_
     have i584 : I64 (((k : Int) + 1)) := by unfold I64; omega
     refine L (r_addI (r := ((k : Int) + 1)) Z rfl rfl rfl i584) Z rfl ?_; clear Z az; intro az Z
     refine L (r_mv Z rfl) Z rfl ?_; clear Z az; intro az Z
     have O585 := (Only.trans (Only.refl (fun _ => True) w345) o359 (fun _ _ => .inl trivial))
     have r586 := (ow_only (ow_only (ow_k r394 o504) o518 (fun k hk => ge_F (ownF_lt r329) (Nat.le_refl _) k (ownF_ge (ow_k r394 o504) k hk))) o529 (fun k hk => ge_F (ownF_lt r329) (Nat.le_refl _) k (ownF_ge (ow_only (ow_k r394 o504) o518 (fun k hk => ge_F (ownF_lt r329) (Nat.le_refl _) k (ownF_ge (ow_k r394 o504) k hk))) k hk)))
     exact ⟨_, (by omega), k + 1, N, Di, rfl, Z.cut ⟨rfl, rfl, rfl, rfl, rfl, trivial⟩, (by omega), (nx_no hm369 hq375 (by omega) hN hm399 (of_decide_eq_false hc404)), (nd_end hm369 (by omega) hDi), hNl, hDil, bN, bDi, (Only.trans (Only.trans (Only.trans (Only.trans (Only.trans (Only.trans (Only.trans (Only.refl (orF (ownF (.slice A335 (400) 400)) (ownF (.slice A327 (400) 400))) w345) o359 (fun _ h => .inl h)) o381 (fun _ h => h.elim)) s386 (fun k h => .inr (Nat.le_trans (size_only O585) ((oneF_ge hg383) k h)))) o391 (fun _ h => h.elim)) o504 (fun _ h => h.elim)) o518 (fun _ h => .inl (.inr h))) o529 (fun _ h => .inl (.inr h))), r586, rDi⟩
  ·
   have p587 := of_decide_eq_false hc363
   have hke : k = L349.length := by omega
   rw [hke, List.take_length] at hN hD
   refine wp_exit ?_
   refine th_exit ?_
   refine th_exit ?_
   refine ib_hit ?_
   refine k343 _ _ (wp_seq_k fun _ k588 => wp_region_lit ?_)
   refine L (r_as Z rfl) Z rfl ?_; clear Z az; intro az Z
   refine k588 _ _ (wp_seq_k fun _ k589 => ?_)
   refine wp_seq_k fun _ k590 => wp_region_lit ?_
   refine L (r_mv Z rfl) Z rfl ?_; clear Z az; intro az Z
   refine L (r_lenL Tryz.underlying30 Z rfl) Z rfl ?_; clear Z az; intro az Z
   refine L (r_mv Z rfl) Z rfl ?_; clear Z az; intro az Z
   refine k590 _ _ ?_
   refine wp_block ?_
   refine wp_loop_m (fun mz az W => ∃ p : Nat, ∃ O : List RM, ∃ Ao : Option Addr, ∃ co : Nat, mz = 400 - p ∧ Fr 91 [(4, .slice A327 (400) 400), (70, .slice A335 (400) 400), (71, .int .i64 (400)), (72, .int .i64 ((p : Int))), (9, .slice Ao (O.length) co)] az ∧ (p ≤ 400) ∧ (O = missL N D p) ∧ Only NoF w358 W ∧ W.ownsRow w358.heap.size 59 2 (.slice Ao O.length co) O.length (List.flatMap KRef.cells O)) ?_ ?_
   ·
    exact ⟨_, 0, [], none, 0, rfl, Z.cut ⟨rfl, rfl, rfl, rfl, rfl, trivial⟩, Nat.zero_le _, rfl, (Only.refl NoF w358), (World.ownsRow_nil _ _ _ _)⟩
   clear Z az
   rintro mz az w591 ⟨p, O, Ao, co, hm593, Z, hp, hO, o592, rO⟩
   have hOk0 : ∀ r ∈ O, KRef.ok r := by rw [hO]; exact ms_ok bN hNl (by omega)
   have hOl : O.length ≤ 400 := by rw [hO]; exact Nat.le_trans ms_len (by omega)
   refine wp_seq_k fun _ k594 => wp_region_lit ?_
   refine L (r_ltI Z rfl rfl) Z rfl ?_; clear Z az; intro az Z
   refine k594 _ _ (wp_seq_k fun _ k595 => ?_)
   refine br Z rfl (fun hc596 => ?_) (fun hc596 => ?_)
   ·
    have p597 := of_decide_eq_true hc596
    refine wp_skip ?_
    refine k595 _ _ (wp_seq_k fun _ k598 => ?_)
    refine wp_block ?_
    refine wp_seq_k fun _ k599 => wp_region_lit ?_
    refine L (r_mv Z rfl) Z rfl ?_; clear Z az; intro az Z
    have r600 := (ow_k rN o592)
    have h601 := Row.ownN KInt r600 hNl (bnd_ok bN)
    have hk602 : p < 400 := by omega
    have hk603 : p < (N).length := by omega
    obtain ⟨m604, hm605, ok606, hA607⟩ := Row.el KInt h601 hk603
    have E608 : ∀ W, Only NoF w591 W → CA W (eA A335 1 (p)) [.int .i64 (m604)] := Row.ce KInt h601 hm605 rfl
    have hb609 := bN m604 (List.mem_of_getElem? hm605)
    refine L (r_ia (k := p) (size := 1) Tryz.underlying30 Tryz.sizeOf3 Z rfl rfl rfl hk602 hA607) Z rfl ?_; clear Z az; intro az Z
    refine L (r_ld Tryz.isAgg3 Z rfl (CA.first (E608 _ (Only.refl NoF w591)))) Z rfl ?_; clear Z az; intro az Z
    refine L (r_as Z rfl) Z rfl ?_; clear Z az; intro az Z
    refine L (r_as Z rfl) Z rfl ?_; clear Z az; intro az Z
    refine k599 _ _ (wp_seq_k fun _ k610 => wp_region_lit ?_)
    refine L (r_mv Z rfl) Z rfl ?_; clear Z az; intro az Z
    refine L (r_mv Z rfl) Z rfl ?_; clear Z az; intro az Z
    refine L (r_mv Z rfl) Z rfl ?_; clear Z az; intro az Z
    have r611 := (ow_k rD o592)
    have h612 := Row.ownN KInt r611 hDl (bnd_ok bD)
    have hk613 : p < 400 := by omega
    have hk614 : p < (D).length := by omega
    obtain ⟨m615, hm616, ok617, hA618⟩ := Row.el KInt h612 hk614
    have E619 : ∀ W, Only NoF w591 W → CA W (eA A327 1 (p)) [.int .i64 (m615)] := Row.ce KInt h612 hm616 rfl
    have hb620 := bD m615 (List.mem_of_getElem? hm616)
    refine L (r_ia (k := p) (size := 1) Tryz.underlying30 Tryz.sizeOf3 Z rfl rfl rfl hk613 hA618) Z rfl ?_; clear Z az; intro az Z
    refine L (r_ld Tryz.isAgg3 Z rfl (CA.first (E619 _ (Only.refl NoF w591)))) Z rfl ?_; clear Z az; intro az Z
    refine L (r_ltI Z rfl rfl) Z rfl ?_; clear Z az; intro az Z
    refine k610 _ _ ?_
    refine br Z rfl (fun hc621 => ?_) (fun hc621 => ?_)
    ·
     have p622 := of_decide_eq_true hc621
     refine wp_region_lit ?_
     refine L (r_mv Z rfl) Z rfl ?_; clear Z az; intro az Z
     refine L (r_mv Z rfl) Z rfl ?_; clear Z az; intro az Z
     refine L (r_mv Z rfl) Z rfl ?_; clear Z az; intro az Z
     refine L (r_bd (v := .agg #[.int .i64 ((p : Int)), .int .i64 (m604)]) (build_Ref2 _ _) Z rfl) Z rfl ?_; clear Z az; intro az Z
     obtain ⟨A623, w624, hw, hA, r625, o626⟩ := Row.made (w := w591) KRef (e := 59) ([(⟨(p : Int), m604⟩ : RM)] : List RM) (by simp only [List.length_cons, List.length_nil]; unfold maxLen; omega)
     refine L (r_bs (z := .agg #[.int .i64 (0), .int .i64 (0)]) (size := 2) (vs := [(0, .agg #[.int .i64 ((p : Int)), .int .i64 (m604)])]) (cs := List.flatMap KRef.cells [(⟨(p : Int), m604⟩ : RM)]) Tryz.underlying35 Tryz.sizeOf59 Tryz.zeroValue59 rfl (Fr.evalps Z rfl) (by kernel_rfl)) Z rfl ?_
     rw [← hw, ← hA]; clear Z az; intro az Z
     clear hw hA
     have ok627 : ∀ zq ∈ ([(⟨(p : Int), m604⟩ : RM)] : List RM), KRef.ok zq := by intro zq hx; simp only [List.mem_cons, List.not_mem_nil, or_false] at hx; rcases hx with rfl <;> first | exact (show I64 ((p : Int)) ∧ I64 (m604) from ⟨by unfold I64; omega, by unfold I64; omega⟩)
     have r628 := (ow_k rO o626)
     have h629 := SliceOf.pl (Row.own KRef r625 ok627)
     have hb637 : (List.length (O) + List.length ([(⟨(p : Int), m604⟩ : RM)])) * 16 ≤ 140737488355328 := by (simp only [List.length_append, List.length_cons, List.length_nil]; omega)
     have O638 : Only NoF w358 w624 := (Only.trans' o592 o626)
     obtain ⟨A630, c631, w632, hr633, r634, o635, al636⟩ := Row.app (P := Tryz.prog) (l := O) (l2 := [(⟨(p : Int), m604⟩ : RM)]) KRef elemRef r628 h629 hb637 (by unfold maxLen; omega) (size_only O638)
     refine L (r_app hr633 Z rfl rfl) Z rfl ?_; clear Z az; intro az Z
     have ok639 : ∀ zq ∈ (O ++ [(⟨(p : Int), m604⟩ : RM)]), KRef.ok zq := (fun x hx => (List.mem_append.1 hx).elim (hOk0 x) ((Row.oks KRef h629) x))
     have h640 := Row.own KRef r634 ok639
     refine L (r_as Z rfl) Z rfl ?_; clear Z az; intro az Z
     refine k598 _ _ ?_
     refine wp_region_lit ?_
     have i641 : I64 (((p : Int) + 1)) := by unfold I64; omega
     refine L (r_addI (r := ((p : Int) + 1)) Z rfl rfl rfl i641) Z rfl ?_; clear Z az; intro az Z
     refine L (r_mv Z rfl) Z rfl ?_; clear Z az; intro az Z
     have O642 : Only NoF w358 w632 := (o_sg O638 o635 (Nat.le_refl _) (ownF_ge rO))
     exact ⟨_, (by omega), p + 1, _, A630, c631, rfl, Z.cut ⟨rfl, rfl, rfl, rfl, rfl, trivial⟩, (by omega), (by rw [hO, ms_yes hm605 hm616 hc621]), O642, r634⟩
    ·
     have p643 := of_decide_eq_false hc621
     refine wp_skip ?_
     refine k598 _ _ ?_
     refine wp_region_lit ?_
     have i644 : I64 (((p : Int) + 1)) := by unfold I64; omega
     refine L (r_addI (r := ((p : Int) + 1)) Z rfl rfl rfl i644) Z rfl ?_; clear Z az; intro az Z
     refine L (r_mv Z rfl) Z rfl ?_; clear Z az; intro az Z
     exact ⟨_, (by omega), p + 1, O, Ao, co, rfl, Z.cut ⟨rfl, rfl, rfl, rfl, rfl, trivial⟩, (by omega), (by rw [hO, ms_no hm605 hm616 hc621]), o592, rO⟩
   ·
    have p645 := of_decide_eq_false hc596
    refine wp_exit ?_
    refine th_exit ?_
    refine th_exit ?_
    refine ib_hit ?_
    refine k589 _ _ (wp_seq_k fun _ k646 => wp_region_lit ?_)
    refine L (r_mv Z rfl) Z rfl ?_; clear Z az; intro az Z
    refine L (r_as Z rfl) Z rfl ?_; clear Z az; intro az Z
    refine k646 _ _ ?_
    refine wp_ret ?_
    show bodyPost _ _ _ .ret _ _
    refine ret_of (vs := [.slice Ao (O.length) co]) Z Tryz.results22 ⟨rfl, trivial⟩ ?_
    have hok : ∀ r ∈ O, KRef.ok r := by rw [hO]; exact ms_ok bN hNl (by omega)
    rw [show p = 400 by omega, ms_all hN hD, ← miss_map, hL350] at hO; subst hO
    have O647 : Only NoF w w358 := (o_sg (Only.trans' O354 o346) o359 (size_only o4) (fun k h => (Or.elim h (fun h => (Nat.le_trans (size_only o330) ((ownF_ge r337) k h))) (fun h => (Nat.le_trans (Nat.le_refl _) ((ownF_ge r329) k h))))))
    have O648 : Only NoF w w591 := (Only.trans' O647 o592)
    exact ⟨_, _, rfl, ow_low rO (size_only O647), hok, O648⟩
end Go.Proofs.YtdcbjedkddgfkaaGreatDoor
