/-
  Gossip: the law's small functions, walked. Condition: at most 1,000,000 notes.
-/
import Derived.Test.YtdcbjedkddgfkaaDoorGP
namespace Go.Proofs.YtdcbjedkddgfkaaDoor
set_option maxHeartbeats 4000000
set_option maxRecDepth 20000
set_option linter.unusedVariables false
set_option linter.unusedSimpArgs false
set_option linter.unusedSectionVars false
open Go.RowKit
section
variable {α : Type} {l l2 : List α} {k : Nat} {a b : α}
theorem eqs_step (h1 : l[k]? = some a) (h2 : l2[k]? = some b) (h : l.take k = l2.take k) (e : a = b) : l.take (k + 1) = l2.take (k + 1) := by
 rw [take_succ_get h1, take_succ_get h2, h, e]
theorem eqs_ne (h1 : l[k]? = some a) (h2 : l2[k]? = some b) (e : ¬ a = b) : ¬ l = l2 := fun h => by
 subst h; rw [h1] at h2; injection h2 with h2; exact e h2
end
section
variable {l : List NM} {k : Nat} {m x : NM} {most h : Int}
theorem has_yes (hm : l[k]? = some m) (h : same m x = true) : hasN l x = true :=
 decide_eq_true (by rw [← same_ns.1 h]; exact List.mem_map_of_mem (List.mem_of_getElem? hm))
theorem has_step (hm : l[k]? = some m) (h0 : hasN (l.take k) x = false) (h : same m x = false) : hasN (l.take (k + 1)) x = false := by
 unfold hasN at *
 rw [take_succ_get hm, List.map_append]
 refine decide_eq_false fun hx => ?_
 rcases List.mem_append.1 hx with e | e
 · exact of_decide_eq_false h0 e
 · rw [List.map_cons, List.map_nil, List.mem_singleton] at e
   rw [same_ns.2 e.symm] at h; cases h
theorem of_yes (hm : l[k]? = some m) (e : decide (m.h = h) = true) : ofN (l.take (k + 1)) h = ofN (l.take k) h ++ [m] := by
 rw [take_succ_get hm, of_app, of_one_eq (of_decide_eq_true e)]
theorem of_no (hm : l[k]? = some m) (e : decide (m.h = h) = false) : ofN (l.take (k + 1)) h = ofN (l.take k) h := by
 rw [take_succ_get hm, of_app, of_one_ne (of_decide_eq_false e), List.append_nil]
theorem of_le : (ofN l h).length ≤ l.length := List.length_filter_le _ _
end
section
variable {N : List Int} {x y : Int} {k : Nat} {R : List RM} {r : RM}
theorem hi_yes (hm : N[k]? = some y) (e : decide (y = x) = true) : hasI N x = true := decide_eq_true (by rw [← of_decide_eq_true e]; exact List.mem_of_getElem? hm)
theorem hi_step (hm : N[k]? = some y) (h0 : ¬ x ∈ N.take k) (e : decide (y = x) = false) : ¬ x ∈ N.take (k + 1) := by
 rw [take_succ_get hm]
 intro hx
 rcases List.mem_append.1 hx with h | h
 · exact h0 h
 · rw [List.mem_singleton] at h
   exact of_decide_eq_false e h.symm
theorem ch_yes (hm : R[k]? = some r) (h0 : (R.take k).find? (fun r => decide (r.h = x)) = none) (e : decide (r.h = x) = true) : cntH R x = r.n := by
 unfold cntH
 rw [show R.find? (fun r => decide (r.h = x)) = some r by
  obtain ⟨h1, h2⟩ := List.getElem?_eq_some_iff.1 hm
  rw [← List.take_append_drop (k + 1) R, List.find?_append, take_succ_get hm, List.find?_append, h0]
  simp [e]]
theorem ch_step (hm : R[k]? = some r) (h0 : (R.take k).find? (fun r => decide (r.h = x)) = none) (e : decide (r.h = x) = false) : (R.take (k + 1)).find? (fun r => decide (r.h = x)) = none := by
 rw [take_succ_get hm, List.find?_append, h0]
 simp [e]
theorem ch_end (h0 : R.find? (fun r => decide (r.h = x)) = none) : cntH R x = 0 := by unfold cntH; rw [h0]
end
theorem build_Note3 (h n d : Int) (w : World) : (Instr.build 42 #[(0, .int .i64 h), (1, .int .i64 n), (2, .int .i64 d)]).run Tryd.prog w = .ok (.agg #[.int .i64 h, .int .i64 n, .int .i64 d, .slice none 0 0, strV []]) w := by kernel_rfl
/-- one look of the law at a note's need -/
def plR (b : List NM) (N : List RM) (F : List Int) (r : RM) : Bool := !(decide ((((ofN b r.h).length : Nat) : Int) ≤ r.n) && (!hasI F r.h || decide (r.n < cntH N r.h)))
section
variable {b : List NM} {m : NM} {N : List RM} {F : List Int} {k : Nat} {r : RM}
theorem pl_head (h : (!decide ((((ofN b m.h).length : Nat) : Int) = m.n)) = true) : placedN b m N F = false := by
 unfold placedN
 rw [Bool.not_eq_true'] at h
 rw [h]; rfl
theorem pl_bad (hr : m.l[k]? = some r) (h : (decide ((((ofN b r.h).length : Nat) : Int) ≤ r.n) && (!hasI F r.h || decide (r.n < cntH N r.h))) = true) : placedN b m N F = false := by
 unfold placedN
 rw [show m.l.all _ = false from List.all_eq_false.2 ⟨r, List.mem_of_getElem? hr, by rw [h]; decide⟩, Bool.and_false]
theorem pl_step (hr : m.l[k]? = some r) (h0 : ∀ r ∈ m.l.take k, plR b N F r = true) (h : (decide ((((ofN b r.h).length : Nat) : Int) ≤ r.n) && (!hasI F r.h || decide (r.n < cntH N r.h))) = false) : ∀ r ∈ m.l.take (k + 1), plR b N F r = true := by
 rw [take_succ_get hr]
 intro x hx
 rcases List.mem_append.1 hx with e | e
 · exact h0 x e
 · rw [List.mem_singleton.1 e]; unfold plR; rw [h]; rfl
theorem pl_ok (hh : (!decide ((((ofN b m.h).length : Nat) : Int) = m.n)) = false) (h : ∀ r ∈ m.l, plR b N F r = true) : placedN b m N F = true := by
 unfold placedN
 rw [Bool.not_eq_false'] at hh
 rw [hh, Bool.true_and]
 exact List.all_eq_true.2 h
end
theorem note39_v (w : World) (h n d : Int) : Calls Tryd.prog 33 [.int .i64 h, .int .i64 n, .int .i64 d].toArray w (Fix (.agg #[.int .i64 h, .int .i64 n, .int .i64 d, .slice none 0 0, strV []]) w) := by
 refine calls_start Tryd.func33 rfl rfl ?_
 intro az Z
 rw [Tryd.ntmps33] at Z
 refine wp_seq_k fun _ k1 => wp_region_lit ?_
 refine LAl (v := .agg #[.int .i64 (0), .int .i64 (0), .int .i64 (0), .slice none (0) 0, strV ([])]) Tryd.zeroValue42 Z rfl rfl ?_
 clear Z az; intro g2 w3 hg6 hl7 o4 B5 az Z
 refine k1 _ _ (wp_seq_k fun _ k8 => wp_region_lit ?_)
 refine L (r_mv Z rfl) Z rfl ?_; clear Z az; intro az Z
 refine L (r_mv Z rfl) Z rfl ?_; clear Z az; intro az Z
 refine L (r_mv Z rfl) Z rfl ?_; clear Z az; intro az Z
 refine L (r_bd (v := .agg #[.int .i64 (h), .int .i64 (n), .int .i64 (d), .slice none (0) 0, strV ([])]) (build_Note3 _ _ _) Z rfl) Z rfl ?_; clear Z az; intro az Z
 refine LSt (cs' := [.int .i64 (h), .int .i64 (n), .int .i64 (d), .slice none (0) 0, strV ([])]) Tryd.sizeOf42 Z rfl rfl rfl rfl rfl ⟨rfl, rfl, rfl, rfl, rfl, trivial⟩ B5 rfl rfl fun w9 s10 B11 => ?_
 refine k8 _ _ ?_
 refine wp_ret ?_
 show bodyPost _ _ _ .ret _ _
 refine ret_of (vs := [.agg #[.int .i64 (h), .int .i64 (n), .int .i64 (d), .slice none (0) 0, strV ([])]]) Z Tryd.results33 ⟨⟨_, rfl, l_ca Tryd.isAgg42 Tryd.sizeOf42 (Blk.ca B11) rfl⟩, trivial⟩ ?_
 have O12 : Only NoF w w9 := (o_sg o4 s10 (Nat.le_refl _) (oneF_ge hg6))
 exact ⟨rfl, O12⟩
theorem sameI_v_ {w : World} {N N2 : List Int} {A1 A2 : Option Addr} {c1 c2 : Nat} (f1 : IntsV w (.slice A1 N.length c1) N) (f2 : IntsV w (.slice A2 N2.length c2) N2) : Calls Tryd.prog 14 [.slice A1 N.length c1, .slice A2 N2.length c2].toArray w (Fix (.bool (decide (N = N2))) w) := by
 have hbd1 := Nat.le_trans (SliceOf.cap_ f1) (SliceOf.lens f1).2
 unfold maxLen at hbd1
 refine calls_start Tryd.func14 rfl rfl ?_
 intro az Z
 rw [Tryd.ntmps14] at Z
 refine wp_seq_k fun _ k1 => wp_region_lit ?_
 refine L (r_as Z rfl) Z rfl ?_; clear Z az; intro az Z
 refine k1 _ _ (wp_seq_k fun _ k2 => ?_)
 refine wp_seq_k fun _ k3 => wp_region_lit ?_
 refine L (r_mv Z rfl) Z rfl ?_; clear Z az; intro az Z
 refine L (r_lenL Tryd.underlying31 Z rfl) Z rfl ?_; clear Z az; intro az Z
 refine L (r_mv Z rfl) Z rfl ?_; clear Z az; intro az Z
 refine L (r_lenL Tryd.underlying31 Z rfl) Z rfl ?_; clear Z az; intro az Z
 refine L (r_neI Z rfl rfl) Z rfl ?_; clear Z az; intro az Z
 refine k3 _ _ ?_
 refine br Z rfl (fun hc4 => ?_) (fun hc4 => ?_)
 ·
  have p5 := of_decide_eq_false (nt_t hc4)
  refine wp_seq_k fun _ k6 => wp_region_lit ?_
  refine L (r_as Z rfl) Z rfl ?_; clear Z az; intro az Z
  refine k6 _ _ ?_
  refine wp_ret ?_
  show bodyPost _ _ _ .ret _ _
  refine ret_of (vs := [.bool (false)]) Z Tryd.results14 ⟨rfl, trivial⟩ ?_
  rw [decide_eq_false (fun h => by have := congrArg List.length h; omega)]; exact ⟨rfl, (Only.refl NoF w)⟩
 ·
  have p7 := of_decide_eq_true (nt_f hc4)
  refine wp_skip ?_
  refine k2 _ _ (wp_seq_k fun _ k8 => ?_)
  refine wp_seq_k fun _ k9 => wp_region_lit ?_
  refine L (r_as Z rfl) Z rfl ?_; clear Z az; intro az Z
  refine k9 _ _ ?_
  refine wp_block ?_
  refine wp_loop_m (fun mz az W => ∃ k : Nat, mz = N.length - k ∧ Fr 26 [(0, .slice A1 (N.length) c1), (1, .slice A2 (N2.length) c2), (5, .int .i64 ((k : Int)))] az ∧ (k ≤ N.length) ∧ (N.take k = N2.take k) ∧ Only NoF w W) ?_ ?_
  ·
   exact ⟨_, 0, rfl, Z.cut ⟨rfl, rfl, rfl, trivial⟩, Nat.zero_le _, rfl, (Only.refl NoF w)⟩
  clear Z az
  rintro mz az w10 ⟨k, hm12, Z, hk, heq, o11⟩
  refine wp_seq_k fun _ k13 => ?_
  refine wp_seq_k fun _ k14 => wp_region_lit ?_
  refine L (r_mv Z rfl) Z rfl ?_; clear Z az; intro az Z
  refine L (r_mv Z rfl) Z rfl ?_; clear Z az; intro az Z
  refine L (r_lenL Tryd.underlying31 Z rfl) Z rfl ?_; clear Z az; intro az Z
  refine L (r_ltI Z rfl rfl) Z rfl ?_; clear Z az; intro az Z
  refine k14 _ _ ?_
  refine br Z rfl (fun hc15 => ?_) (fun hc15 => ?_)
  ·
   have p16 := of_decide_eq_true hc15
   refine wp_skip ?_
   refine k13 _ _ (wp_seq_k fun _ k17 => ?_)
   refine wp_block ?_
   refine wp_seq_k fun _ k18 => ?_
   refine reg_q [(true, 0), (true, 1), (true, 2), (true, 3), (true, 4), (true, 5), (true, 6), (true, 7), (true, 8)] (by kernel_rfl) (by kernel_rfl) (fun _ _ _ _ _ h => h) fun w19 o20 => ?_
   refine M (r_mv Z rfl) Z rfl rfl ?_; clear Z az; intro az Z
   refine M (r_mv Z rfl) Z rfl rfl ?_; clear Z az; intro az Z
   have hk21 : k < (N).length := by omega
   have O27 : Only NoF w w19 := (Only.trans' o11 o20)
   have h28 := (SliceOf.kp f1 O27 (fun _ _ h => h) (fun _ _ _ _ h => h))
   obtain ⟨m22, hm23, ok24, hA25⟩ := Row.el KInt h28 hk21
   have E26 : ∀ W, Only NoF w19 W → CA W (eA A1 1 (k)) [.int .i64 (m22)] := Row.ce KInt h28 hm23 rfl
   refine M (r_ia (k := k) (size := 1) Tryd.underlying31 Tryd.sizeOf3 Z rfl rfl rfl hk21 hA25) Z rfl rfl ?_; clear Z az; intro az Z
   refine M (r_ld Tryd.isAgg3 Z rfl (CA.first (E26 _ (Only.refl NoF w19)))) Z rfl rfl ?_; clear Z az; intro az Z
   refine M (r_mv Z rfl) Z rfl rfl ?_; clear Z az; intro az Z
   refine M (r_mv Z rfl) Z rfl rfl ?_; clear Z az; intro az Z
   have hk29 : k < (N2).length := by omega
   have h35 := (SliceOf.kp f2 O27 (fun _ _ h => h) (fun _ _ _ _ h => h))
   obtain ⟨m30, hm31, ok32, hA33⟩ := Row.el KInt h35 hk29
   have E34 : ∀ W, Only NoF w19 W → CA W (eA A2 1 (k)) [.int .i64 (m30)] := Row.ce KInt h35 hm31 rfl
   refine M (r_ia (k := k) (size := 1) Tryd.underlying31 Tryd.sizeOf3 Z rfl rfl rfl hk29 hA33) Z rfl rfl ?_; clear Z az; intro az Z
   refine M (r_ld Tryd.isAgg3 Z rfl (CA.first (E34 _ (Only.refl NoF w19)))) Z rfl rfl ?_; clear Z az; intro az Z
   refine M (r_neI Z rfl rfl) Z rfl rfl ?_; clear Z az; intro az Z
   refine wpMix_nil ?_
   refine k18 _ _ ?_
   refine br Z rfl (fun hc36 => ?_) (fun hc36 => ?_)
   ·
    have p37 := of_decide_eq_false (nt_t hc36)
    refine wp_seq_k fun _ k38 => wp_region_lit ?_
    refine L (r_as Z rfl) Z rfl ?_; clear Z az; intro az Z
    refine k38 _ _ ?_
    refine wp_ret ?_
    show bodyPost _ _ _ .ret _ _
    refine ret_of (vs := [.bool (false)]) Z Tryd.results14 ⟨rfl, trivial⟩ ?_
    rw [decide_eq_false (eqs_ne hm23 hm31 (of_decide_eq_false (nt_t hc36)))]; exact ⟨rfl, O27⟩
   ·
    have p39 := of_decide_eq_true (nt_f hc36)
    refine wp_skip ?_
    refine k17 _ _ ?_
    refine wp_region_lit ?_
    refine L (r_mv Z rfl) Z rfl ?_; clear Z az; intro az Z
    have i40 : I64 (((k : Int) + 1)) := by unfold I64; omega
    refine L (r_addI (r := ((k : Int) + 1)) Z rfl rfl rfl i40) Z rfl ?_; clear Z az; intro az Z
    refine L (r_as Z rfl) Z rfl ?_; clear Z az; intro az Z
    exact ⟨_, (by omega), k + 1, rfl, Z.cut ⟨rfl, rfl, rfl, trivial⟩, (by omega), (eqs_step hm23 hm31 heq (of_decide_eq_true (nt_f hc36))), O27⟩
  ·
   have p41 := of_decide_eq_false hc15
   refine wp_exit ?_
   refine th_exit ?_
   refine th_exit ?_
   refine ib_hit ?_
   refine k8 _ _ (wp_seq_k fun _ k42 => wp_region_lit ?_)
   refine L (r_as Z rfl) Z rfl ?_; clear Z az; intro az Z
   refine k42 _ _ ?_
   refine wp_ret ?_
   show bodyPost _ _ _ .ret _ _
   refine ret_of (vs := [.bool (true)]) Z Tryd.results14 ⟨rfl, trivial⟩ ?_
   have hk2 : N.length = N2.length := by omega
   rw [List.take_of_length_le (by omega), List.take_of_length_le (by omega)] at heq
   rw [decide_eq_true heq]; exact ⟨rfl, o11⟩
theorem has39_v_ {w : World} {l : List NM} {A : Option Addr} {c : Nat} (t : NtV w (.slice A l.length c) l) {x : NM} (hx : okN AllB w x) : Calls Tryd.prog 23 [.slice A l.length c, .agg #[.int .i64 x.h, .int .i64 x.n, .int .i64 x.d, .slice x.A x.l.length x.c, strV x.s]].toArray w (Fix (.bool (hasN l x)) w) := by
 have hV := NtV.notes t
 have hbd1 := Nat.le_trans (SliceOf.cap_ hV) (SliceOf.lens hV).2
 unfold maxLen at hbd1
 refine calls_start Tryd.func23 rfl rfl ?_
 intro az Z
 rw [Tryd.ntmps23] at Z
 refine wp_seq_k fun _ k1 => wp_region_lit ?_
 refine LBox Z rfl rfl rfl ?_
 clear Z az; intro g2 w3 hg6 hl7 o4 B5 az Z
 refine L (r_as Z rfl) Z rfl ?_; clear Z az; intro az Z
 refine k1 _ _ (wp_seq_k fun _ k8 => ?_)
 refine wp_seq_k fun _ k9 => wp_region_lit ?_
 refine L (r_as Z rfl) Z rfl ?_; clear Z az; intro az Z
 refine k9 _ _ ?_
 refine wp_block ?_
 refine wp_loop_m (fun mz az W => ∃ k : Nat, mz = l.length - k ∧ Fr 18 [(0, .slice A (l.length) c), (3, .pointer (some ((⟨g2, 0, none⟩ : Addr)))), (5, .int .i64 ((k : Int)))] az ∧ (k ≤ l.length) ∧ (hasN (l.take k) x = false) ∧ Only NoF w3 W) ?_ ?_
 ·
  exact ⟨_, 0, rfl, Z.cut ⟨rfl, rfl, rfl, trivial⟩, Nat.zero_le _, rfl, (Only.refl NoF w3)⟩
 clear Z az
 rintro mz az w10 ⟨k, hm12, Z, hk, h0, o11⟩
 refine wp_seq_k fun _ k13 => ?_
 refine wp_seq_k fun _ k14 => wp_region_lit ?_
 refine L (r_mv Z rfl) Z rfl ?_; clear Z az; intro az Z
 refine L (r_mv Z rfl) Z rfl ?_; clear Z az; intro az Z
 refine L (r_lenL Tryd.underlying22 Z rfl) Z rfl ?_; clear Z az; intro az Z
 refine L (r_ltI Z rfl rfl) Z rfl ?_; clear Z az; intro az Z
 refine k14 _ _ ?_
 refine br Z rfl (fun hc15 => ?_) (fun hc15 => ?_)
 ·
  have p16 := of_decide_eq_true hc15
  refine wp_skip ?_
  refine k13 _ _ (wp_seq_k fun _ k17 => ?_)
  refine wp_block ?_
  refine wp_seq_k fun _ k18 => ?_
  refine reg_p NoF 1 [5] (.rd 0 (.rd 1 (.rd 2 (.rd 3 (.rd 4 (.ex 5 .nil)))))) (by kernel_rfl) (by kernel_rfl) (fun _ _ _ _ _ h => h) fun w19 o20 => ?_
  have B21 := (Blk.k (Blk.k B5 o11) o20)
  refine Pl.MSP (b := true) (by kernel_rfl) (fun W oW => r_mv Z rfl) Z rfl rfl ?_; clear Z az; intro az Z
  refine Pl.MSP (b := true) (by kernel_rfl) (fun W oW => r_mv Z rfl) Z rfl rfl ?_; clear Z az; intro az Z
  have hk22 : k < (l).length := by omega
  have O28 : Only NoF w w19 := (Only.trans' (Only.trans' o4 o11) o20)
  have h29 := (SliceOf.kp hV O28 (fun _ _ h => h) (fun _ _ _ _ h => h))
  obtain ⟨m23, hm24, ok25, hA26⟩ := Row.el (KNote w) h29 hk22
  have E27 : ∀ W, Only NoF w19 W → CA W (eA A 5 (k)) [.int .i64 (m23.h), .int .i64 (m23.n), .int .i64 (m23.d), .slice m23.A (m23.l.length) m23.c, strV (m23.s)] := Row.ce (KNote w) h29 hm24 rfl
  refine Pl.MSP (b := true) (by kernel_rfl) (fun W oW => r_ia (k := k) (size := 5) Tryd.underlying22 Tryd.sizeOf42 Z rfl rfl rfl hk22 hA26) Z rfl rfl ?_; clear Z az; intro az Z
  refine Pl.MSP (b := true) (by kernel_rfl) (fun W oW => r_ldA Tryd.isAgg42 Tryd.sizeOf42 Z rfl (E27 _ (Only.trans' (Only.refl NoF w19) oW)) rfl) Z rfl rfl ?_; clear Z az; intro az Z
  refine Pl.MSP (b := true) (by kernel_rfl) (fun W oW => r_ldA Tryd.isAgg42 Tryd.sizeOf42 Z rfl (Blk.ca (Blk.k B21 oW)) rfl) Z rfl rfl ?_; clear Z az; intro az Z
  have h30 := (SliceOf.kp ok25.2.2.2.1 O28 (fun _ _ h => h) (fun _ _ _ _ h => h))
  have h31 := (SliceOf.kp hx.2.2.2.1 O28 (fun _ _ h => h) (fun _ _ _ _ h => h))
  refine Pl.MSV (v := .bool (same m23 x)) Z rfl rfl rfl Tryd.call36 (rSame_v (m := m23) (m2 := x) h30 h31) rfl (fun w' o' => ⟨fun _ => o', (Only.trans (Only.refl NoF w19) o' (fun _ h => h.elim))⟩) fun w32 o33 => ?_; clear Z az; intro az Z
  refine wpPl_nil ?_
  refine k18 _ _ ?_
  refine br Z rfl (fun hc34 => ?_) (fun hc34 => ?_)
  ·
   have q35 : same m23 x = true := hc34
   refine wp_seq_k fun _ k36 => wp_region_lit ?_
   refine L (r_as Z rfl) Z rfl ?_; clear Z az; intro az Z
   refine k36 _ _ ?_
   refine wp_ret ?_
   show bodyPost _ _ _ .ret _ _
   refine ret_of (vs := [.bool (true)]) Z Tryd.results23 ⟨rfl, trivial⟩ ?_
   have O37 : Only NoF w w32 := (Only.trans' O28 o33)
   rw [has_yes hm24 hc34]; exact ⟨rfl, O37⟩
  ·
   have q38 : same m23 x = false := hc34
   refine wp_skip ?_
   refine k17 _ _ ?_
   refine wp_region_lit ?_
   refine L (r_mv Z rfl) Z rfl ?_; clear Z az; intro az Z
   have i39 : I64 (((k : Int) + 1)) := by unfold I64; omega
   refine L (r_addI (r := ((k : Int) + 1)) Z rfl rfl rfl i39) Z rfl ?_; clear Z az; intro az Z
   refine L (r_as Z rfl) Z rfl ?_; clear Z az; intro az Z
   have O40 : Only NoF w3 w32 := (Only.trans' (Only.trans' o11 o20) o33)
   exact ⟨_, (by omega), k + 1, rfl, Z.cut ⟨rfl, rfl, rfl, trivial⟩, (by omega), (has_step hm24 h0 hc34), O40⟩
 ·
  have p41 := of_decide_eq_false hc15
  refine wp_exit ?_
  refine th_exit ?_
  refine th_exit ?_
  refine ib_hit ?_
  refine k8 _ _ (wp_seq_k fun _ k42 => wp_region_lit ?_)
  refine L (r_as Z rfl) Z rfl ?_; clear Z az; intro az Z
  refine k42 _ _ ?_
  refine wp_ret ?_
  show bodyPost _ _ _ .ret _ _
  refine ret_of (vs := [.bool (false)]) Z Tryd.results23 ⟨rfl, trivial⟩ ?_
  have O43 : Only NoF w w10 := (Only.trans' o4 o11)
  rw [List.take_of_length_le (by omega)] at h0; rw [h0]; exact ⟨rfl, O43⟩
theorem hasI_v_ {w : World} {N : List Int} {A : Option Addr} {c : Nat} (f1 : IntsV w (.slice A N.length c) N) (x : Int) : Calls Tryd.prog 27 [.slice A N.length c, .int .i64 x].toArray w (Fix (.bool (hasI N x)) w) := by
 have hbd1 := Nat.le_trans (SliceOf.cap_ f1) (SliceOf.lens f1).2
 unfold maxLen at hbd1
 refine calls_start Tryd.func27 rfl rfl ?_
 intro az Z
 rw [Tryd.ntmps27] at Z
 refine wp_seq_k fun _ k1 => wp_region_lit ?_
 refine L (r_as Z rfl) Z rfl ?_; clear Z az; intro az Z
 refine k1 _ _ (wp_seq_k fun _ k2 => ?_)
 refine wp_seq_k fun _ k3 => wp_region_lit ?_
 refine L (r_as Z rfl) Z rfl ?_; clear Z az; intro az Z
 refine k3 _ _ ?_
 refine wp_block ?_
 refine wp_loop_m (fun mz az W => ∃ k : Nat, mz = N.length - k ∧ Fr 18 [(0, .slice A (N.length) c), (1, .int .i64 (x)), (5, .int .i64 ((k : Int)))] az ∧ (k ≤ N.length) ∧ (¬ x ∈ N.take k) ∧ Only NoF w W) ?_ ?_
 ·
  exact ⟨_, 0, rfl, Z.cut ⟨rfl, rfl, rfl, trivial⟩, Nat.zero_le _, (fun h => by cases h), (Only.refl NoF w)⟩
 clear Z az
 rintro mz az w4 ⟨k, hm6, Z, hk, h0, o5⟩
 refine wp_seq_k fun _ k7 => ?_
 refine wp_seq_k fun _ k8 => wp_region_lit ?_
 refine L (r_mv Z rfl) Z rfl ?_; clear Z az; intro az Z
 refine L (r_mv Z rfl) Z rfl ?_; clear Z az; intro az Z
 refine L (r_lenL Tryd.underlying31 Z rfl) Z rfl ?_; clear Z az; intro az Z
 refine L (r_ltI Z rfl rfl) Z rfl ?_; clear Z az; intro az Z
 refine k8 _ _ ?_
 refine br Z rfl (fun hc9 => ?_) (fun hc9 => ?_)
 ·
  have p10 := of_decide_eq_true hc9
  refine wp_skip ?_
  refine k7 _ _ (wp_seq_k fun _ k11 => ?_)
  refine wp_block ?_
  refine wp_seq_k fun _ k12 => wp_region_lit ?_
  refine L (r_mv Z rfl) Z rfl ?_; clear Z az; intro az Z
  refine L (r_mv Z rfl) Z rfl ?_; clear Z az; intro az Z
  have hk13 : k < (N).length := by omega
  have h19 := (SliceOf.kp f1 o5 (fun _ _ h => h) (fun _ _ _ _ h => h))
  obtain ⟨m14, hm15, ok16, hA17⟩ := Row.el KInt h19 hk13
  have E18 : ∀ W, Only NoF w4 W → CA W (eA A 1 (k)) [.int .i64 (m14)] := Row.ce KInt h19 hm15 rfl
  refine L (r_ia (k := k) (size := 1) Tryd.underlying31 Tryd.sizeOf3 Z rfl rfl rfl hk13 hA17) Z rfl ?_; clear Z az; intro az Z
  refine L (r_ld Tryd.isAgg3 Z rfl (CA.first (E18 _ (Only.refl NoF w4)))) Z rfl ?_; clear Z az; intro az Z
  refine L (r_mv Z rfl) Z rfl ?_; clear Z az; intro az Z
  refine L (r_eqI Z rfl rfl) Z rfl ?_; clear Z az; intro az Z
  refine k12 _ _ ?_
  refine br Z rfl (fun hc20 => ?_) (fun hc20 => ?_)
  ·
   have p21 := of_decide_eq_true hc20
   refine wp_seq_k fun _ k22 => wp_region_lit ?_
   refine L (r_as Z rfl) Z rfl ?_; clear Z az; intro az Z
   refine k22 _ _ ?_
   refine wp_ret ?_
   show bodyPost _ _ _ .ret _ _
   refine ret_of (vs := [.bool (true)]) Z Tryd.results27 ⟨rfl, trivial⟩ ?_
   rw [hi_yes hm15 hc20]; exact ⟨rfl, o5⟩
  ·
   have p23 := of_decide_eq_false hc20
   refine wp_skip ?_
   refine k11 _ _ ?_
   refine wp_region_lit ?_
   refine L (r_mv Z rfl) Z rfl ?_; clear Z az; intro az Z
   have i24 : I64 (((k : Int) + 1)) := by unfold I64; omega
   refine L (r_addI (r := ((k : Int) + 1)) Z rfl rfl rfl i24) Z rfl ?_; clear Z az; intro az Z
   refine L (r_as Z rfl) Z rfl ?_; clear Z az; intro az Z
   exact ⟨_, (by omega), k + 1, rfl, Z.cut ⟨rfl, rfl, rfl, trivial⟩, (by omega), (hi_step hm15 h0 hc20), o5⟩
 ·
  have p25 := of_decide_eq_false hc9
  refine wp_exit ?_
  refine th_exit ?_
  refine th_exit ?_
  refine ib_hit ?_
  refine k2 _ _ (wp_seq_k fun _ k26 => wp_region_lit ?_)
  refine L (r_as Z rfl) Z rfl ?_; clear Z az; intro az Z
  refine k26 _ _ ?_
  refine wp_ret ?_
  show bodyPost _ _ _ .ret _ _
  refine ret_of (vs := [.bool (false)]) Z Tryd.results27 ⟨rfl, trivial⟩ ?_
  rw [List.take_of_length_le (by omega)] at h0; rw [show hasI N x = false from decide_eq_false h0]; exact ⟨rfl, o5⟩
theorem cntH_v_ {w : World} {R : List RM} {A : Option Addr} {c : Nat} (f1 : RefsV w (.slice A R.length c) R) (x : Int) : Calls Tryd.prog 25 [.slice A R.length c, .int .i64 x].toArray w (Fix (.int .i64 (cntH R x)) w) := by
 have hbd1 := Nat.le_trans (SliceOf.cap_ f1) (SliceOf.lens f1).2
 unfold maxLen at hbd1
 refine calls_start Tryd.func25 rfl rfl ?_
 intro az Z
 rw [Tryd.ntmps25] at Z
 refine wp_seq_k fun _ k1 => wp_region_lit ?_
 refine L (r_as Z rfl) Z rfl ?_; clear Z az; intro az Z
 refine k1 _ _ (wp_seq_k fun _ k2 => ?_)
 refine wp_seq_k fun _ k3 => wp_region_lit ?_
 refine L (r_as Z rfl) Z rfl ?_; clear Z az; intro az Z
 refine k3 _ _ ?_
 refine wp_block ?_
 refine wp_loop_m (fun mz az W => ∃ k : Nat, mz = R.length - k ∧ Fr 24 [(0, .slice A (R.length) c), (1, .int .i64 (x)), (5, .int .i64 ((k : Int)))] az ∧ (k ≤ R.length) ∧ ((R.take k).find? (fun r => decide (r.h = x)) = none) ∧ Only NoF w W) ?_ ?_
 ·
  exact ⟨_, 0, rfl, Z.cut ⟨rfl, rfl, rfl, trivial⟩, Nat.zero_le _, rfl, (Only.refl NoF w)⟩
 clear Z az
 rintro mz az w4 ⟨k, hm6, Z, hk, h0, o5⟩
 refine wp_seq_k fun _ k7 => ?_
 refine wp_seq_k fun _ k8 => wp_region_lit ?_
 refine L (r_mv Z rfl) Z rfl ?_; clear Z az; intro az Z
 refine L (r_mv Z rfl) Z rfl ?_; clear Z az; intro az Z
 refine L (r_lenL Tryd.underlying36 Z rfl) Z rfl ?_; clear Z az; intro az Z
 refine L (r_ltI Z rfl rfl) Z rfl ?_; clear Z az; intro az Z
 refine k8 _ _ ?_
 refine br Z rfl (fun hc9 => ?_) (fun hc9 => ?_)
 ·
  have p10 := of_decide_eq_true hc9
  refine wp_skip ?_
  refine k7 _ _ (wp_seq_k fun _ k11 => ?_)
  refine wp_block ?_
  refine wp_seq_k fun _ k12 => wp_region_lit ?_
  refine L (r_mv Z rfl) Z rfl ?_; clear Z az; intro az Z
  refine L (r_mv Z rfl) Z rfl ?_; clear Z az; intro az Z
  have hk13 : k < (R).length := by omega
  have h19 := (SliceOf.kp f1 o5 (fun _ _ h => h) (fun _ _ _ _ h => h))
  obtain ⟨m14, hm15, ok16, hA17⟩ := Row.el KRef h19 hk13
  have E18 : ∀ W, Only NoF w4 W → CA W (eA A 2 (k)) [.int .i64 (m14.h), .int .i64 (m14.n)] := Row.ce KRef h19 hm15 rfl
  refine L (r_ia (k := k) (size := 2) Tryd.underlying36 Tryd.sizeOf40 Z rfl rfl rfl hk13 hA17) Z rfl ?_; clear Z az; intro az Z
  refine L (r_fa (m' := 0) Tryd.underlying40 rfl Tryd.sizeOf3 rfl Z rfl rfl) Z rfl ?_; clear Z az; intro az Z
  refine L (r_ld Tryd.isAgg3 Z rfl ((E18 _ (Only.refl NoF w4)) 0 _ rfl)) Z rfl ?_; clear Z az; intro az Z
  refine L (r_mv Z rfl) Z rfl ?_; clear Z az; intro az Z
  refine L (r_eqI Z rfl rfl) Z rfl ?_; clear Z az; intro az Z
  refine k12 _ _ ?_
  refine br Z rfl (fun hc20 => ?_) (fun hc20 => ?_)
  ·
   have p21 := of_decide_eq_true hc20
   refine wp_seq_k fun _ k22 => wp_region_lit ?_
   refine L (r_mv Z rfl) Z rfl ?_; clear Z az; intro az Z
   refine L (r_mv Z rfl) Z rfl ?_; clear Z az; intro az Z
   refine L (r_ia (k := k) (size := 2) Tryd.underlying36 Tryd.sizeOf40 Z rfl rfl rfl hk13 hA17) Z rfl ?_; clear Z az; intro az Z
   refine L (r_fa (m' := 1) Tryd.underlying40 rfl Tryd.sizeOf3 rfl Z rfl rfl) Z rfl ?_; clear Z az; intro az Z
   refine L (r_ld Tryd.isAgg3 Z rfl ((E18 _ (Only.refl NoF w4)) 1 _ rfl)) Z rfl ?_; clear Z az; intro az Z
   refine L (r_as Z rfl) Z rfl ?_; clear Z az; intro az Z
   refine k22 _ _ ?_
   refine wp_ret ?_
   show bodyPost _ _ _ .ret _ _
   refine ret_of (vs := [.int .i64 (m14.n)]) Z Tryd.results25 ⟨rfl, trivial⟩ ?_
   rw [ch_yes hm15 h0 hc20]; exact ⟨rfl, o5⟩
  ·
   have p23 := of_decide_eq_false hc20
   refine wp_skip ?_
   refine k11 _ _ ?_
   refine wp_region_lit ?_
   refine L (r_mv Z rfl) Z rfl ?_; clear Z az; intro az Z
   have i24 : I64 (((k : Int) + 1)) := by unfold I64; omega
   refine L (r_addI (r := ((k : Int) + 1)) Z rfl rfl rfl i24) Z rfl ?_; clear Z az; intro az Z
   refine L (r_as Z rfl) Z rfl ?_; clear Z az; intro az Z
   exact ⟨_, (by omega), k + 1, rfl, Z.cut ⟨rfl, rfl, rfl, trivial⟩, (by omega), (ch_step hm15 h0 hc20), o5⟩
 ·
  have p25 := of_decide_eq_false hc9
  refine wp_exit ?_
  refine th_exit ?_
  refine th_exit ?_
  refine ib_hit ?_
  refine k2 _ _ (wp_seq_k fun _ k26 => wp_region_lit ?_)
  refine L (r_as Z rfl) Z rfl ?_; clear Z az; intro az Z
  refine k26 _ _ ?_
  refine wp_ret ?_
  show bodyPost _ _ _ .ret _ _
  refine ret_of (vs := [.int .i64 (0)]) Z Tryd.results25 ⟨rfl, trivial⟩ ?_
  rw [List.take_of_length_le (by omega)] at h0; rw [ch_end h0]; exact ⟨rfl, o5⟩
theorem of39_v_ {w : World} {l : List NM} {A : Option Addr} {c : Nat} (f1 : SliceOf AllB 5 KN0.R w (.slice A l.length c) l) (hl : l.length ≤ 1000000) (h : Int) : Calls Tryd.prog 21 [.slice A l.length c, .int .i64 h].toArray w (RowTo (ofN l h) w) := by
 refine calls_start Tryd.func21 rfl rfl ?_
 intro az Z
 rw [Tryd.ntmps21] at Z
 refine wp_seq_k fun _ k1 => wp_region_lit ?_
 refine L (r_as Z rfl) Z rfl ?_; clear Z az; intro az Z
 refine k1 _ _ (wp_seq_k fun _ k2 => wp_region_lit ?_)
 obtain ⟨A3, w4, hw, hA, r5, o6⟩ := made0 (w := w) (e := 42) (size := 5)
 refine L (r_bs0 Tryd.underlying22 Tryd.sizeOf42) Z rfl ?_
 rw [← hw, ← hA]; clear Z az; intro az Z
 clear hw hA
 refine L (r_as Z rfl) Z rfl ?_; clear Z az; intro az Z
 refine k2 _ _ (wp_seq_k fun _ k7 => ?_)
 refine wp_seq_k fun _ k8 => wp_region_lit ?_
 refine L (r_as Z rfl) Z rfl ?_; clear Z az; intro az Z
 refine k8 _ _ ?_
 refine wp_block ?_
 refine wp_loop_m (fun mz az W => ∃ k : Nat, ∃ O : List NM, ∃ Ao : Option Addr, ∃ co : Nat, mz = l.length - k ∧ Fr 29 [(0, .slice A (l.length) c), (1, .int .i64 (h)), (6, .int .i64 ((k : Int))), (5, .slice Ao (O.length) co)] az ∧ (k ≤ l.length) ∧ (O = ofN (l.take k) h) ∧ Only NoF w W ∧ W.ownsRow w.heap.size 42 5 (.slice Ao O.length co) O.length (List.flatMap KN0.cells O)) ?_ ?_
 ·
  exact ⟨_, 0, [], A3, 0, rfl, Z.cut ⟨rfl, rfl, rfl, rfl, trivial⟩, Nat.zero_le _, rfl, o6, r5⟩
 clear Z az
 rintro mz az w9 ⟨k, O, Ao, co, hm11, Z, hk, hO, o10, rO⟩
 have hOl : O.length ≤ l.length := by rw [hO]; exact Nat.le_trans of_le (by rw [List.length_take]; omega)
 refine wp_seq_k fun _ k12 => ?_
 refine wp_seq_k fun _ k13 => wp_region_lit ?_
 refine L (r_mv Z rfl) Z rfl ?_; clear Z az; intro az Z
 refine L (r_mv Z rfl) Z rfl ?_; clear Z az; intro az Z
 refine L (r_lenL Tryd.underlying22 Z rfl) Z rfl ?_; clear Z az; intro az Z
 refine L (r_ltI Z rfl rfl) Z rfl ?_; clear Z az; intro az Z
 refine k13 _ _ ?_
 refine br Z rfl (fun hc14 => ?_) (fun hc14 => ?_)
 ·
  have p15 := of_decide_eq_true hc14
  refine wp_skip ?_
  refine k12 _ _ (wp_seq_k fun _ k16 => ?_)
  refine wp_block ?_
  refine wp_seq_k fun _ k17 => wp_region_lit ?_
  refine L (r_mv Z rfl) Z rfl ?_; clear Z az; intro az Z
  refine L (r_mv Z rfl) Z rfl ?_; clear Z az; intro az Z
  have hk18 : k < (l).length := by omega
  have h24 := (SliceOf.kp f1 o10 (fun _ _ h => h) (fun _ _ _ _ h => h))
  obtain ⟨m19, hm20, ok21, hA22⟩ := Row.el KN0 h24 hk18
  have E23 : ∀ W, Only NoF w9 W → CA W (eA A 5 (k)) [.int .i64 (m19.h), .int .i64 (m19.n), .int .i64 (m19.d), .slice m19.A (m19.l.length) m19.c, strV (m19.s)] := Row.ce KN0 h24 hm20 rfl
  refine L (r_ia (k := k) (size := 5) Tryd.underlying22 Tryd.sizeOf42 Z rfl rfl rfl hk18 hA22) Z rfl ?_; clear Z az; intro az Z
  refine L (r_fa (m' := 0) Tryd.underlying42 rfl Tryd.sizeOf3 rfl Z rfl rfl) Z rfl ?_; clear Z az; intro az Z
  refine L (r_ld Tryd.isAgg3 Z rfl ((E23 _ (Only.refl NoF w9)) 0 _ rfl)) Z rfl ?_; clear Z az; intro az Z
  refine L (r_mv Z rfl) Z rfl ?_; clear Z az; intro az Z
  refine L (r_eqI Z rfl rfl) Z rfl ?_; clear Z az; intro az Z
  refine k17 _ _ ?_
  refine br Z rfl (fun hc25 => ?_) (fun hc25 => ?_)
  ·
   have p26 := of_decide_eq_true hc25
   refine wp_region_lit ?_
   refine L (r_mv Z rfl) Z rfl ?_; clear Z az; intro az Z
   refine L (r_mv Z rfl) Z rfl ?_; clear Z az; intro az Z
   refine L (r_mv Z rfl) Z rfl ?_; clear Z az; intro az Z
   refine L (r_ia (k := k) (size := 5) Tryd.underlying22 Tryd.sizeOf42 Z rfl rfl rfl hk18 hA22) Z rfl ?_; clear Z az; intro az Z
   refine L (r_ldA Tryd.isAgg42 Tryd.sizeOf42 Z rfl (E23 _ (Only.refl NoF w9)) rfl) Z rfl ?_; clear Z az; intro az Z
   obtain ⟨A27, w28, hw, hA, r29, o30⟩ := Row.made (w := w9) KN0 (e := 42) ([m19] : List NM) (by simp only [List.length_cons, List.length_nil]; unfold maxLen; omega)
   refine L (r_bs (z := .agg #[.int .i64 (0), .int .i64 (0), .int .i64 (0), .slice none (0) 0, strV ([])]) (size := 5) (vs := [(0, .agg #[.int .i64 (m19.h), .int .i64 (m19.n), .int .i64 (m19.d), .slice m19.A (m19.l.length) m19.c, strV (m19.s)])]) (cs := List.flatMap KN0.cells [m19]) Tryd.underlying22 Tryd.sizeOf42 Tryd.zeroValue42 rfl (Fr.evalps Z rfl) (by kernel_rfl)) Z rfl ?_
   rw [← hw, ← hA]; clear Z az; intro az Z
   clear hw hA
   have ok31 : ∀ zq ∈ ([m19] : List NM), KN0.ok zq := by intro zq hx; simp only [List.mem_cons, List.not_mem_nil, or_false] at hx; rcases hx with rfl <;> first | exact trivial
   have r32 := (ow_k rO o30)
   have h33 := SliceOf.pl (Row.own KN0 r29 ok31)
   have hb41 : (List.length (O) + List.length ([m19])) * 64 ≤ 140737488355328 := by (simp only [List.length_append, List.length_cons, List.length_nil]; omega)
   have O42 : Only NoF w w28 := (Only.trans' o10 o30)
   obtain ⟨A34, c35, w36, hr37, r38, o39, al40⟩ := Row.app (P := Tryd.prog) (l := O) (l2 := [m19]) KN0 elemNote r32 h33 hb41 (by unfold maxLen; omega) (size_only O42)
   refine L (r_app hr37 Z rfl rfl) Z rfl ?_; clear Z az; intro az Z
   have ok43 : ∀ zq ∈ (O ++ [m19]), KN0.ok zq := (fun x hx => (List.mem_append.1 hx).elim ((fun _ _ => trivial) x) ((Row.oks KN0 h33) x))
   have h44 := Row.own KN0 r38 ok43
   refine L (r_as Z rfl) Z rfl ?_; clear Z az; intro az Z
   refine k16 _ _ ?_
   refine wp_region_lit ?_
   refine L (r_mv Z rfl) Z rfl ?_; clear Z az; intro az Z
   have i45 : I64 (((k : Int) + 1)) := by unfold I64; omega
   refine L (r_addI (r := ((k : Int) + 1)) Z rfl rfl rfl i45) Z rfl ?_; clear Z az; intro az Z
   refine L (r_as Z rfl) Z rfl ?_; clear Z az; intro az Z
   have O46 : Only NoF w w36 := (o_sg O42 o39 (Nat.le_refl _) (ownF_ge rO))
   exact ⟨_, (by omega), k + 1, _, A34, c35, rfl, Z.cut ⟨rfl, rfl, rfl, rfl, trivial⟩, (by omega), (by rw [hO, of_yes hm20 hc25]), O46, r38⟩
  ·
   have p47 := of_decide_eq_false hc25
   refine wp_skip ?_
   refine k16 _ _ ?_
   refine wp_region_lit ?_
   refine L (r_mv Z rfl) Z rfl ?_; clear Z az; intro az Z
   have i48 : I64 (((k : Int) + 1)) := by unfold I64; omega
   refine L (r_addI (r := ((k : Int) + 1)) Z rfl rfl rfl i48) Z rfl ?_; clear Z az; intro az Z
   refine L (r_as Z rfl) Z rfl ?_; clear Z az; intro az Z
   exact ⟨_, (by omega), k + 1, O, Ao, co, rfl, Z.cut ⟨rfl, rfl, rfl, rfl, trivial⟩, (by omega), (by rw [hO, of_no hm20 hc25]), o10, rO⟩
 ·
  have p49 := of_decide_eq_false hc14
  refine wp_exit ?_
  refine th_exit ?_
  refine th_exit ?_
  refine ib_hit ?_
  refine k7 _ _ (wp_seq_k fun _ k50 => wp_region_lit ?_)
  refine L (r_mv Z rfl) Z rfl ?_; clear Z az; intro az Z
  refine L (r_as Z rfl) Z rfl ?_; clear Z az; intro az Z
  refine k50 _ _ ?_
  refine wp_ret ?_
  show bodyPost _ _ _ .ret _ _
  refine ret_of (vs := [.slice Ao (O.length) co]) Z Tryd.results21 ⟨rfl, trivial⟩ ?_
  rw [List.take_of_length_le (by omega)] at hO; subst hO; exact ⟨_, _, rfl, rO, o10⟩
end Go.Proofs.YtdcbjedkddgfkaaDoor
