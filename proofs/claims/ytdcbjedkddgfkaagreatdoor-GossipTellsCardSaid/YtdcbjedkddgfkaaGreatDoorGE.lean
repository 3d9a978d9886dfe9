/-
  Gossip: the law's small functions, walked. Condition: at most 1,000,000 notes.
  Gossip: the law's other functions, walked. Condition: the listed variables; at most 1,000,000 notes.
  Gossip: the reference's SameChain, walked (as in the store's chapter). No condition.
-/
import Derived.Test.YtdcbjedkddgfkaaGreatDoorGP
namespace Go.Proofs.YtdcbjedkddgfkaaGreatDoor
set_option maxHeartbeats 4000000
set_option maxRecDepth 20000
set_option linter.unusedVariables false
set_option linter.unusedSimpArgs false
set_option linter.unusedSectionVars false
section
open Go.RowKit
section
variable {α : Type} {l l2 : List α} {k : Nat} {a b : α}
theorem eqs_step (h1 : l[k]? = some a) (h2 : l2[k]? = some b) (h : l.take k = l2.take k) (e : a = b) : l.take (k + 1) = l2.take (k + 1) := by
 rw [take_succ_get h1, take_succ_get h2, h, e]
theorem eqs_ne (h1 : l[k]? = some a) (h2 : l2[k]? = some b) (e : ¬ a = b) : ¬ l = l2 := fun h => by
 subst h; rw [h1] at h2; injection h2 with h2; exact e h2
end
def sml (m : NM) : Bool := !(decide ((45 : Int) < ((m.l.length : Nat) : Int)) || decide ((200 : Int) < ((m.s.length : Nat) : Int)))
def few39 (l : List NM) (most : Int) : Bool := (l.take (most + 1).toNat).all sml && decide (((l.length : Nat) : Int) ≤ most)
section
variable {l : List NM} {k : Nat} {m x : NM} {most h : Int}
theorem few_le (h : few39 l most = true) : ((l.length : Nat) : Int) ≤ most := by
 unfold few39 at h
 rw [Bool.and_eq_true, decide_eq_true_eq] at h
 exact h.2
theorem few_bad (hm : l[k]? = some m) (hk : (k : Int) ≤ most) (h : sml m = false) : few39 l most = false := by
 unfold few39
 rw [show (l.take (most + 1).toNat).all sml = false from List.all_eq_false.2 ⟨m, List.mem_of_getElem? (i := k) (by rw [List.getElem?_take, if_pos (by omega)]; exact hm), by rw [h]; decide⟩]
 rfl
theorem few_ok (h0 : ∀ m ∈ l.take k, sml m = true) (hk : k ≤ l.length) (h : (decide ((k : Int) < ((l.length : Nat) : Int)) && decide ((k : Int) ≤ most)) = false) : few39 l most = decide (((l.length : Nat) : Int) ≤ most) := by
 unfold few39
 rw [show (l.take (most + 1).toNat).all sml = true from List.all_eq_true.2 fun m hm => by
  refine h0 m ?_
  rw [Bool.and_eq_false_iff, decide_eq_false_iff_not, decide_eq_false_iff_not] at h
  obtain ⟨i, hi⟩ := List.getElem?_of_mem hm
  rw [List.getElem?_take] at hi
  split at hi
  · refine List.mem_of_getElem? (i := i) ?_
    have hil := (List.getElem?_eq_some_iff.1 hi).1
    rw [List.getElem?_take, if_pos (by omega)]; exact hi
  · cases hi]
 rfl
theorem sml_step (hm : l[k]? = some m) (h0 : ∀ m ∈ l.take k, sml m = true) (h : sml m = true) : ∀ m ∈ l.take (k + 1), sml m = true := by
 rw [take_succ_get hm]
 intro x hx
 rcases List.mem_append.1 hx with e | e
 · exact h0 x e
 · rw [List.mem_singleton.1 e]; exact h
theorem has_yes (hm : l[k]? = some m) (h : same m x = true) : hasN l x = true :=
 decide_eq_true (by rw [← same_ns.1 h]; exact List.mem_map_of_mem (List.mem_of_getElem? hm))
theorem has_step (hm : l[k]? = some m) (h0 : hasN (l.take k) x = false) (h : same m x = false) : hasN (l.take (k + 1)) x = false := by
 unfold hasN at *
 rw [take_succ_get hm, List.map_append]
 refine decide_eq_false fun hx => ?_
 rcases List.mem_append.1 hx with e | e
 · exact of_decide_eq_false h0 e
 · rw [List.map_cons, List.map_nil, List.mem_singleton] at e
   rw [same_ns.2 e.symm] at h; cases h
end
section
variable {N : List Int} {x y : Int} {k : Nat} {R : List RM} {r : RM}
end
theorem build_Note3 (h n d : Int) (w : World) : (Instr.build 43 #[(0, .int .i64 h), (1, .int .i64 n), (2, .int .i64 d)]).run Tryz.prog w = .ok (.agg #[.int .i64 h, .int .i64 n, .int .i64 d, .slice none 0 0, strV []]) w := by kernel_rfl
section
variable {b : List NM} {m : NM} {N : List RM} {F : List Int} {k : Nat} {r : RM}
end
theorem note39_v (w : World) (h n d : Int) : Calls Tryz.prog 29 [.int .i64 h, .int .i64 n, .int .i64 d].toArray w (Fix (.agg #[.int .i64 h, .int .i64 n, .int .i64 d, .slice none 0 0, strV []]) w) := by
 refine calls_start Tryz.func29 rfl rfl ?_
 intro az Z
 rw [Tryz.ntmps29] at Z
 refine wp_seq_k fun _ k1 => wp_region_lit ?_
 refine LAl (v := .agg #[.int .i64 (0), .int .i64 (0), .int .i64 (0), .slice none (0) 0, strV ([])]) Tryz.zeroValue43 Z rfl rfl ?_
 clear Z az; intro g2 w3 hg6 hl7 o4 B5 az Z
 refine k1 _ _ (wp_seq_k fun _ k8 => wp_region_lit ?_)
 refine L (r_mv Z rfl) Z rfl ?_; clear Z az; intro az Z
 refine L (r_mv Z rfl) Z rfl ?_; clear Z az; intro az Z
 refine L (r_mv Z rfl) Z rfl ?_; clear Z az; intro az Z
 refine L (r_bd (v := .agg #[.int .i64 (h), .int .i64 (n), .int .i64 (d), .slice none (0) 0, strV ([])]) (build_Note3 _ _ _) Z rfl) Z rfl ?_; clear Z az; intro az Z
 refine LSt (cs' := [.int .i64 (h), .int .i64 (n), .int .i64 (d), .slice none (0) 0, strV ([])]) Tryz.sizeOf43 Z rfl rfl rfl rfl rfl ⟨rfl, rfl, rfl, rfl, rfl, trivial⟩ B5 rfl rfl fun w9 s10 B11 => ?_
 refine k8 _ _ ?_
 refine wp_ret ?_
 show bodyPost _ _ _ .ret _ _
 refine ret_of (vs := [.agg #[.int .i64 (h), .int .i64 (n), .int .i64 (d), .slice none (0) 0, strV ([])]]) Z Tryz.results29 ⟨⟨_, rfl, l_ca Tryz.isAgg43 Tryz.sizeOf43 (Blk.ca B11) rfl⟩, trivial⟩ ?_
 have O12 : Only NoF w w9 := (o_sg o4 s10 (Nat.le_refl _) (oneF_ge hg6))
 exact ⟨rfl, O12⟩
theorem few39_v_ {w : World} {l : List NM} {A : Option Addr} {c : Nat} (t : NtV w (.slice A l.length c) l) (most : Int) : Calls Tryz.prog 6 [.slice A l.length c, .int .i64 most].toArray w (Fix (.bool (few39 l most)) w) := by
 have hV := NtV.notes t
 have hbd1 := Nat.le_trans (SliceOf.cap_ hV) (SliceOf.lens hV).2
 unfold maxLen at hbd1
 refine calls_start Tryz.func6 rfl rfl ?_
 intro az Z
 rw [Tryz.ntmps6] at Z
 refine wp_seq_k fun _ k1 => wp_region_lit ?_
 refine L (r_as Z rfl) Z rfl ?_; clear Z az; intro az Z
 refine k1 _ _ (wp_seq_k fun _ k2 => ?_)
 refine wp_seq_k fun _ k3 => wp_region_lit ?_
 refine L (r_as Z rfl) Z rfl ?_; clear Z az; intro az Z
 refine k3 _ _ ?_
 refine wp_block ?_
 refine wp_loop_m (fun mz az W => ∃ k : Nat, mz = l.length - k ∧ Fr 37 [(0, .slice A (l.length) c), (1, .int .i64 (most)), (5, .int .i64 ((k : Int)))] az ∧ (k ≤ l.length) ∧ (∀ m ∈ l.take k, sml m = true) ∧ Only NoF w W) ?_ ?_
 ·
  exact ⟨_, 0, rfl, Z.cut ⟨rfl, rfl, rfl, trivial⟩, Nat.zero_le _, (fun m hm => by cases hm), (Only.refl NoF w)⟩
 clear Z az
 rintro mz az w4 ⟨k, hm6, Z, hk, h0, o5⟩
 refine wp_seq_k fun _ k7 => ?_
 refine wp_seq_k fun _ k8 => wp_region_lit ?_
 refine L (r_mv Z rfl) Z rfl ?_; clear Z az; intro az Z
 refine L (r_mv Z rfl) Z rfl ?_; clear Z az; intro az Z
 refine L (r_lenL Tryz.underlying22 Z rfl) Z rfl ?_; clear Z az; intro az Z
 refine L (r_ltI Z rfl rfl) Z rfl ?_; clear Z az; intro az Z
 refine L (r_mv Z rfl) Z rfl ?_; clear Z az; intro az Z
 refine LG Z rfl rfl gd_t (fun hb => r_mv Z rfl) rfl ?_; clear Z az; intro az Z
 refine LG Z rfl rfl gd_t (fun hb => r_mv Z rfl) rfl ?_; clear Z az; intro az Z
 refine LG Z rfl rfl gd_t (fun hb => r_leI Z (evg hb rfl) (evg hb rfl)) rfl ?_; clear Z az; intro az Z
 refine L (r_and Z rfl rfl rfl) Z rfl ?_; clear Z az; intro az Z
 refine k8 _ _ ?_
 refine br Z rfl (fun hc9 => ?_) (fun hc9 => ?_)
 ·
  have p10 := of_decide_eq_true (and_t hc9).1
  have p11 := of_decide_eq_true (and_t hc9).2
  have hb9 := and_t hc9
  have hb8 := of_decide_eq_true hb9.1; have hb7 := of_decide_eq_true hb9.2
  refine wp_skip ?_
  refine k7 _ _ (wp_seq_k fun _ k12 => ?_)
  refine wp_block ?_
  refine wp_seq_k fun _ k13 => wp_region_lit ?_
  refine L (r_mv Z rfl) Z rfl ?_; clear Z az; intro az Z
  refine L (r_mv Z rfl) Z rfl ?_; clear Z az; intro az Z
  have hk14 : k < (l).length := by omega
  have h20 := (SliceOf.kp hV o5 (fun _ _ h => h) (fun _ _ _ _ h => h))
  obtain ⟨m15, hm16, ok17, hA18⟩ := Row.el (KNote w) h20 hk14
  have E19 : ∀ W, Only NoF w4 W → CA W (eA A 5 (k)) [.int .i64 (m15.h), .int .i64 (m15.n), .int .i64 (m15.d), .slice m15.A (m15.l.length) m15.c, strV (m15.s)] := Row.ce (KNote w) h20 hm16 rfl
  refine L (r_ia (k := k) (size := 5) Tryz.underlying22 Tryz.sizeOf43 Z rfl rfl rfl hk14 hA18) Z rfl ?_; clear Z az; intro az Z
  refine L (r_fa (m' := 3) Tryz.underlying43 rfl Tryz.sizeOf35 rfl Z rfl rfl) Z rfl ?_; clear Z az; intro az Z
  refine L (r_ld Tryz.isAgg35 Z rfl ((E19 _ (Only.refl NoF w4)) 3 _ rfl)) Z rfl ?_; clear Z az; intro az Z
  refine L (r_lenL Tryz.underlying35 Z rfl) Z rfl ?_; clear Z az; intro az Z
  refine L (r_gtI Z rfl rfl) Z rfl ?_; clear Z az; intro az Z
  refine L (r_mv Z rfl) Z rfl ?_; clear Z az; intro az Z
  refine LG Z rfl rfl gd_f (fun hb => r_mv Z rfl) rfl ?_; clear Z az; intro az Z
  refine LG Z rfl rfl gd_f (fun hb => r_mv Z rfl) rfl ?_; clear Z az; intro az Z
  refine LG Z rfl rfl gd_f (fun hb => r_ia (k := k) (size := 5) Tryz.underlying22 Tryz.sizeOf43 Z (evg hb rfl) (evg hb rfl) rfl hk14 hA18) rfl ?_; clear Z az; intro az Z
  refine LG Z rfl rfl gd_f (fun hb => r_fa (m' := 4) Tryz.underlying43 rfl Tryz.sizeOf9 rfl Z (evg hb rfl) rfl) rfl ?_; clear Z az; intro az Z
  refine LG Z rfl rfl gd_f (fun hb => r_ld Tryz.isAgg9 Z (evg hb rfl) ((E19 _ (Only.refl NoF w4)) 4 _ rfl)) rfl ?_; clear Z az; intro az Z
  refine LG Z rfl rfl gd_f (fun hb => r_lenS Tryz.underlying9 Z (evg hb rfl)) rfl ?_; clear Z az; intro az Z
  refine LG Z rfl rfl gd_f (fun hb => r_gtI Z (evg hb rfl) rfl) rfl ?_; clear Z az; intro az Z
  refine L (r_or Z rfl rfl rfl) Z rfl ?_; clear Z az; intro az Z
  refine k13 _ _ ?_
  refine br Z rfl (fun hc21 => ?_) (fun hc21 => ?_)
  ·
   have d22 := hc21
   refine wp_seq_k fun _ k23 => wp_region_lit ?_
   refine L (r_as Z rfl) Z rfl ?_; clear Z az; intro az Z
   refine k23 _ _ ?_
   refine wp_ret ?_
   show bodyPost _ _ _ .ret _ _
   refine ret_of (vs := [.bool (false)]) Z Tryz.results6 ⟨rfl, trivial⟩ ?_
   rw [few_bad hm16 hb7 (by unfold sml; rw [hc21]; rfl)]; exact ⟨rfl, o5⟩
  ·
   have p24 := of_decide_eq_false (or_f hc21).1
   have p25 := of_decide_eq_false (or_f hc21).2
   refine wp_skip ?_
   refine k12 _ _ ?_
   refine wp_region_lit ?_
   refine L (r_mv Z rfl) Z rfl ?_; clear Z az; intro az Z
   have i26 : I64 (((k : Int) + 1)) := by unfold I64; omega
   refine L (r_addI (r := ((k : Int) + 1)) Z rfl rfl rfl i26) Z rfl ?_; clear Z az; intro az Z
   refine L (r_as Z rfl) Z rfl ?_; clear Z az; intro az Z
   exact ⟨_, (by omega), k + 1, rfl, Z.cut ⟨rfl, rfl, rfl, trivial⟩, (by omega), (sml_step hm16 h0 (by unfold sml; rw [hc21]; rfl)), o5⟩
 ·
  have d27 := hc9
  refine wp_exit ?_
  refine th_exit ?_
  refine th_exit ?_
  refine ib_hit ?_
  refine k2 _ _ (wp_seq_k fun _ k28 => wp_region_lit ?_)
  refine L (r_mv Z rfl) Z rfl ?_; clear Z az; intro az Z
  refine L (r_lenL Tryz.underlying22 Z rfl) Z rfl ?_; clear Z az; intro az Z
  refine L (r_mv Z rfl) Z rfl ?_; clear Z az; intro az Z
  refine L (r_leI Z rfl rfl) Z rfl ?_; clear Z az; intro az Z
  refine L (r_as Z rfl) Z rfl ?_; clear Z az; intro az Z
  refine k28 _ _ ?_
  refine wp_ret ?_
  show bodyPost _ _ _ .ret _ _
  refine ret_of (vs := [.bool (decide (((l.length : Nat) : Int) ≤ most))]) Z Tryz.results6 ⟨rfl, trivial⟩ ?_
  rw [few_ok h0 hk hc9]; exact ⟨rfl, o5⟩
theorem sameI_v_ {w : World} {N N2 : List Int} {A1 A2 : Option Addr} {c1 c2 : Nat} (f1 : IntsV w (.slice A1 N.length c1) N) (f2 : IntsV w (.slice A2 N2.length c2) N2) : Calls Tryz.prog 12 [.slice A1 N.length c1, .slice A2 N2.length c2].toArray w (Fix (.bool (decide (N = N2))) w) := by
 have hbd1 := Nat.le_trans (SliceOf.cap_ f1) (SliceOf.lens f1).2
 unfold maxLen at hbd1
 refine calls_start Tryz.func12 rfl rfl ?_
 intro az Z
 rw [Tryz.ntmps12] at Z
 refine wp_seq_k fun _ k1 => wp_region_lit ?_
 refine L (r_as Z rfl) Z rfl ?_; clear Z az; intro az Z
 refine k1 _ _ (wp_seq_k fun _ k2 => ?_)
 refine wp_seq_k fun _ k3 => wp_region_lit ?_
 refine L (r_mv Z rfl) Z rfl ?_; clear Z az; intro az Z
 refine L (r_lenL Tryz.underlying30 Z rfl) Z rfl ?_; clear Z az; intro az Z
 refine L (r_mv Z rfl) Z rfl ?_; clear Z az; intro az Z
 refine L (r_lenL Tryz.underlying30 Z rfl) Z rfl ?_; clear Z az; intro az Z
 refine L (r_neI Z rfl rfl) Z rfl ?_; clear Z az; intro az Z
 refine k3 _ _ ?_
 refine br Z rfl (fun hc4 => ?_) (fun hc4 => ?_)
 ·
  have p5 := of_decide_eq_false (nt_t hc4)
  refine wp_seq_k fun _ k6 => wp_region_lit ?_
  refine L (r_as Z rfl) Z rfl ?_; clear Z az; intro az Z
  refine k6 _ _ ?_
  refine wp_ret ?_
  show bodyPost _ _ _ .ret _ _
  refine ret_of (vs := [.bool (false)]) Z Tryz.results12 ⟨rfl, trivial⟩ ?_
  rw [decide_eq_false (fun h => by have := congrArg List.length h; omega)]; exact ⟨rfl, (Only.refl NoF w)⟩
 ·
  have p7 := of_decide_eq_true (nt_f hc4)
  refine wp_skip ?_
  refine k2 _ _ (wp_seq_k fun _ k8 => ?_)
  refine wp_seq_k fun _ k9 => wp_region_lit ?_
  refine L (r_as Z rfl) Z rfl ?_; clear Z az; intro az Z
  refine k9 _ _ ?_
  refine wp_block ?_
  refine wp_loop_m (fun mz az W => ∃ k : Nat, mz = N.length - k ∧ Fr 26 [(0, .slice A1 (N.length) c1), (1, .slice A2 (N2.length) c2), (5, .int .i64 ((k : Int)))] az ∧ (k ≤ N.length) ∧ (N.take k = N2.take k) ∧ Only NoF w W) ?_ ?_
  ·
   exact ⟨_, 0, rfl, Z.cut ⟨rfl, rfl, rfl, trivial⟩, Nat.zero_le _, rfl, (Only.refl NoF w)⟩
  clear Z az
  rintro mz az w10 ⟨k, hm12, Z, hk, heq, o11⟩
  refine wp_seq_k fun _ k13 => ?_
  refine wp_seq_k fun _ k14 => wp_region_lit ?_
  refine L (r_mv Z rfl) Z rfl ?_; clear Z az; intro az Z
  refine L (r_mv Z rfl) Z rfl ?_; clear Z az; intro az Z
  refine L (r_lenL Tryz.underlying30 Z rfl) Z rfl ?_; clear Z az; intro az Z
  refine L (r_ltI Z rfl rfl) Z rfl ?_; clear Z az; intro az Z
  refine k14 _ _ ?_
  refine br Z rfl (fun hc15 => ?_) (fun hc15 => ?_)
  ·
   have p16 := of_decide_eq_true hc15
   refine wp_skip ?_
   refine k13 _ _ (wp_seq_k fun _ k17 => ?_)
   refine wp_block ?_
   refine wp_seq_k fun _ k18 => ?_
   refine reg_q [(true, 0), (true, 1), (true, 2), (true, 3), (true, 4), (true, 5), (true, 6), (true, 7), (true, 8)] (by kernel_rfl) (by kernel_rfl) (fun _ _ _ _ _ h => h) fun w19 o20 => ?_
   refine M (r_mv Z rfl) Z rfl rfl ?_; clear Z az; intro az Z
   refine M (r_mv Z rfl) Z rfl rfl ?_; clear Z az; intro az Z
   have hk21 : k < (N).length := by omega
   have O27 : Only NoF w w19 := (Only.trans' o11 o20)
   have h28 := (SliceOf.kp f1 O27 (fun _ _ h => h) (fun _ _ _ _ h => h))
   obtain ⟨m22, hm23, ok24, hA25⟩ := Row.el KInt h28 hk21
   have E26 : ∀ W, Only NoF w19 W → CA W (eA A1 1 (k)) [.int .i64 (m22)] := Row.ce KInt h28 hm23 rfl
   refine M (r_ia (k := k) (size := 1) Tryz.underlying30 Tryz.sizeOf3 Z rfl rfl rfl hk21 hA25) Z rfl rfl ?_; clear Z az; intro az Z
   refine M (r_ld Tryz.isAgg3 Z rfl (CA.first (E26 _ (Only.refl NoF w19)))) Z rfl rfl ?_; clear Z az; intro az Z
   refine M (r_mv Z rfl) Z rfl rfl ?_; clear Z az; intro az Z
   refine M (r_mv Z rfl) Z rfl rfl ?_; clear Z az; intro az Z
   have hk29 : k < (N2).length := by omega
   have h35 := (SliceOf.kp f2 O27 (fun _ _ h => h) (fun _ _ _ _ h => h))
   obtain ⟨m30, hm31, ok32, hA33⟩ := Row.el KInt h35 hk29
   have E34 : ∀ W, Only NoF w19 W → CA W (eA A2 1 (k)) [.int .i64 (m30)] := Row.ce KInt h35 hm31 rfl
   refine M (r_ia (k := k) (size := 1) Tryz.underlying30 Tryz.sizeOf3 Z rfl rfl rfl hk29 hA33) Z rfl rfl ?_; clear Z az; intro az Z
   refine M (r_ld Tryz.isAgg3 Z rfl (CA.first (E34 _ (Only.refl NoF w19)))) Z rfl rfl ?_; clear Z az; intro az Z
   refine M (r_neI Z rfl rfl) Z rfl rfl ?_; clear Z az; intro az Z
   refine wpMix_nil ?_
   refine k18 _ _ ?_
   refine br Z rfl (fun hc36 => ?_) (fun hc36 => ?_)
   ·
    have p37 := of_decide_eq_false (nt_t hc36)
    refine wp_seq_k fun _ k38 => wp_region_lit ?_
    refine L (r_as Z rfl) Z rfl ?_; clear Z az; intro az Z
    refine k38 _ _ ?_
    refine wp_ret ?_
    show bodyPost _ _ _ .ret _ _
    refine ret_of (vs := [.bool (false)]) Z Tryz.results12 ⟨rfl, trivial⟩ ?_
    rw [decide_eq_false (eqs_ne hm23 hm31 (of_decide_eq_false (nt_t hc36)))]; exact ⟨rfl, O27⟩
   ·
    have p39 := of_decide_eq_true (nt_f hc36)
    refine wp_skip ?_
    refine k17 _ _ ?_
    refine wp_region_lit ?_
    refine L (r_mv Z rfl) Z rfl ?_; clear Z az; intro az Z
    have i40 : I64 (((k : Int) + 1)) := by unfold I64; omega
    refine L (r_addI (r := ((k : Int) + 1)) Z rfl rfl rfl i40) Z rfl ?_; clear Z az; intro az Z
    refine L (r_as Z rfl) Z rfl ?_; clear Z az; intro az Z
    exact ⟨_, (by omega), k + 1, rfl, Z.cut ⟨rfl, rfl, rfl, trivial⟩, (by omega), (eqs_step hm23 hm31 heq (of_decide_eq_true (nt_f hc36))), O27⟩
  ·
   have p41 := of_decide_eq_false hc15
   refine wp_exit ?_
   refine th_exit ?_
   refine th_exit ?_
   refine ib_hit ?_
   refine k8 _ _ (wp_seq_k fun _ k42 => wp_region_lit ?_)
   refine L (r_as Z rfl) Z rfl ?_; clear Z az; intro az Z
   refine k42 _ _ ?_
   refine wp_ret ?_
   show bodyPost _ _ _ .ret _ _
   refine ret_of (vs := [.bool (true)]) Z Tryz.results12 ⟨rfl, trivial⟩ ?_
   have hk2 : N.length = N2.length := by omega
   rw [List.take_of_length_le (by omega), List.take_of_length_le (by omega)] at heq
   rw [decide_eq_true heq]; exact ⟨rfl, o11⟩
theorem has39_v_ {w : World} {l : List NM} {A : Option Addr} {c : Nat} (t : NtV w (.slice A l.length c) l) {x : NM} (hx : okN AllB w x) : Calls Tryz.prog 28 [.slice A l.length c, .agg #[.int .i64 x.h, .int .i64 x.n, .int .i64 x.d, .slice x.A x.l.length x.c, strV x.s]].toArray w (Fix (.bool (hasN l x)) w) := by
 have hV := NtV.notes t
 have hbd1 := Nat.le_trans (SliceOf.cap_ hV) (SliceOf.lens hV).2
 unfold maxLen at hbd1
 refine calls_start Tryz.func28 rfl rfl ?_
 intro az Z
 rw [Tryz.ntmps28] at Z
 refine wp_seq_k fun _ k1 => wp_region_lit ?_
 refine LBox Z rfl rfl rfl ?_
 clear Z az; intro g2 w3 hg6 hl7 o4 B5 az Z
 refine L (r_as Z rfl) Z rfl ?_; clear Z az; intro az Z
 refine k1 _ _ (wp_seq_k fun _ k8 => ?_)
 refine wp_seq_k fun _ k9 => wp_region_lit ?_
 refine L (r_as Z rfl) Z rfl ?_; clear Z az; intro az Z
 refine k9 _ _ ?_
 refine wp_block ?_
 refine wp_loop_m (fun mz az W => ∃ k : Nat, mz = l.length - k ∧ Fr 18 [(0, .slice A (l.length) c), (3, .pointer (some ((⟨g2, 0, none⟩ : Addr)))), (5, .int .i64 ((k : Int)))] az ∧ (k ≤ l.length) ∧ (hasN (l.take k) x = false) ∧ Only NoF w3 W) ?_ ?_
 ·
  exact ⟨_, 0, rfl, Z.cut ⟨rfl, rfl, rfl, trivial⟩, Nat.zero_le _, rfl, (Only.refl NoF w3)⟩
 clear Z az
 rintro mz az w10 ⟨k, hm12, Z, hk, h0, o11⟩
 refine wp_seq_k fun _ k13 => ?_
 refine wp_seq_k fun _ k14 => wp_region_lit ?_
 refine L (r_mv Z rfl) Z rfl ?_; clear Z az; intro az Z
 refine L (r_mv Z rfl) Z rfl ?_; clear Z az; intro az Z
 refine L (r_lenL Tryz.underlying22 Z rfl) Z rfl ?_; clear Z az; intro az Z
 refine L (r_ltI Z rfl rfl) Z rfl ?_; clear Z az; intro az Z
 refine k14 _ _ ?_
 refine br Z rfl (fun hc15 => ?_) (fun hc15 => ?_)
 ·
  have p16 := of_decide_eq_true hc15
  refine wp_skip ?_
  refine k13 _ _ (wp_seq_k fun _ k17 => ?_)
  refine wp_block ?_
  refine wp_seq_k fun _ k18 => ?_
  refine reg_p NoF 1 [5] (.rd 0 (.rd 1 (.rd 2 (.rd 3 (.rd 4 (.ex 5 .nil)))))) (by kernel_rfl) (by kernel_rfl) (fun _ _ _ _ _ h => h) fun w19 o20 => ?_
  have B21 := (Blk.k (Blk.k B5 o11) o20)
  refine Pl.MSP (b := true) (by kernel_rfl) (fun W oW => r_mv Z rfl) Z rfl rfl ?_; clear Z az; intro az Z
  refine Pl.MSP (b := true) (by kernel_rfl) (fun W oW => r_mv Z rfl) Z rfl rfl ?_; clear Z az; intro az Z
  have hk22 : k < (l).length := by omega
  have O28 : Only NoF w w19 := (Only.trans' (Only.trans' o4 o11) o20)
  have h29 := (SliceOf.kp hV O28 (fun _ _ h => h) (fun _ _ _ _ h => h))
  obtain ⟨m23, hm24, ok25, hA26⟩ := Row.el (KNote w) h29 hk22
  have E27 : ∀ W, Only NoF w19 W → CA W (eA A 5 (k)) [.int .i64 (m23.h), .int .i64 (m23.n), .int .i64 (m23.d), .slice m23.A (m23.l.length) m23.c, strV (m23.s)] := Row.ce (KNote w) h29 hm24 rfl
  refine Pl.MSP (b := true) (by kernel_rfl) (fun W oW => r_ia (k := k) (size := 5) Tryz.underlying22 Tryz.sizeOf43 Z rfl rfl rfl hk22 hA26) Z rfl rfl ?_; clear Z az; intro az Z
  refine Pl.MSP (b := true) (by kernel_rfl) (fun W oW => r_ldA Tryz.isAgg43 Tryz.sizeOf43 Z rfl (E27 _ (Only.trans' (Only.refl NoF w19) oW)) rfl) Z rfl rfl ?_; clear Z az; intro az Z
  refine Pl.MSP (b := true) (by kernel_rfl) (fun W oW => r_ldA Tryz.isAgg43 Tryz.sizeOf43 Z rfl (Blk.ca (Blk.k B21 oW)) rfl) Z rfl rfl ?_; clear Z az; intro az Z
  have h30 := (SliceOf.kp ok25.2.2.2.1 O28 (fun _ _ h => h) (fun _ _ _ _ h => h))
  have h31 := (SliceOf.kp hx.2.2.2.1 O28 (fun _ _ h => h) (fun _ _ _ _ h => h))
  refine Pl.MSV (v := .bool (same m23 x)) Z rfl rfl rfl Tryz.call33 (rSame_v (m := m23) (m2 := x) h30 h31) rfl (fun w' o' => ⟨fun _ => o', (Only.trans (Only.refl NoF w19) o' (fun _ h => h.elim))⟩) fun w32 o33 => ?_; clear Z az; intro az Z
  refine wpPl_nil ?_
  refine k18 _ _ ?_
  refine br Z rfl (fun hc34 => ?_) (fun hc34 => ?_)
  ·
   have q35 : same m23 x = true := hc34
   refine wp_seq_k fun _ k36 => wp_region_lit ?_
   refine L (r_as Z rfl) Z rfl ?_; clear Z az; intro az Z
   refine k36 _ _ ?_
   refine wp_ret ?_
   show bodyPost _ _ _ .ret _ _
   refine ret_of (vs := [.bool (true)]) Z Tryz.results28 ⟨rfl, trivial⟩ ?_
   have O37 : Only NoF w w32 := (Only.trans' O28 o33)
   rw [has_yes hm24 hc34]; exact ⟨rfl, O37⟩
  ·
   have q38 : same m23 x = false := hc34
   refine wp_skip ?_
   refine k17 _ _ ?_
   refine wp_region_lit ?_
   refine L (r_mv Z rfl) Z rfl ?_; clear Z az; intro az Z
   have i39 : I64 (((k : Int) + 1)) := by unfold I64; omega
   refine L (r_addI (r := ((k : Int) + 1)) Z rfl rfl rfl i39) Z rfl ?_; clear Z az; intro az Z
   refine L (r_as Z rfl) Z rfl ?_; clear Z az; intro az Z
   have O40 : Only NoF w3 w32 := (Only.trans' (Only.trans' o11 o20) o33)
   exact ⟨_, (by omega), k + 1, rfl, Z.cut ⟨rfl, rfl, rfl, trivial⟩, (by omega), (has_step hm24 h0 hc34), O40⟩
 ·
  have p41 := of_decide_eq_false hc15
  refine wp_exit ?_
  refine th_exit ?_
  refine th_exit ?_
  refine ib_hit ?_
  refine k8 _ _ (wp_seq_k fun _ k42 => wp_region_lit ?_)
  refine L (r_as Z rfl) Z rfl ?_; clear Z az; intro az Z
  refine k42 _ _ ?_
  refine wp_ret ?_
  show bodyPost _ _ _ .ret _ _
  refine ret_of (vs := [.bool (false)]) Z Tryz.results28 ⟨rfl, trivial⟩ ?_
  have O43 : Only NoF w w10 := (Only.trans' o4 o11)
  rw [List.take_of_length_le (by omega)] at h0; rw [h0]; exact ⟨rfl, O43⟩
end
section
open Go.RowKit
def KBool : Row Bool := ⟨1, fun m => [.bool m], fun _ => True, fun _ => rfl, by decide, fun x u hu => by
 simp at hu
 subst hu; rfl⟩
/-! ### first -/
/-! ### gap -/
section
variable {l : List NM} {k q : Nat} {m : NM} {h z : Int} {B : List Bool} {i : Nat} {r : RM}
end
/-! ### shuffled -/
/-! ### wants -/
theorem heads_bnd {l : List NM} (hl : l.length ≤ 1000000) : (headsN (joinN l)).length ≤ 1000000 := by
 have h1 := hd_len (runN (joinN l)).1
 rw [headN_eq]
 have h2 := congrArg List.length (run_houses (joinN l)).1
 rw [List.length_map, List.length_map] at h2
 have h3 := hou_len (joinN l)
 have h4 := joinN_le l
 omega
theorem app_Fg {v v' : Value} {m k : Nat} (al : v'.ownBlock = v.ownBlock ∨ v'.ownBlock = some m) (h : ownF v' k) : ownF v k ∨ k = m := by
 unfold ownF at h ⊢
 rcases al with al | al
 · rw [al] at h; exact .inl h
 · rw [al] at h; injection h with h; exact .inr h.symm
end
section
open Go.RowKit
section
variable {l l2 : List NM} {k : Nat} {m m2 : NM}
theorem sc_len (h : (!decide (((l.length : Nat) : Int) = ((l2.length : Nat) : Int))) = true) : decide (l.map ns = l2.map ns) = false := by
 refine decide_eq_false fun e => ?_
 have := congrArg List.length e
 rw [List.length_map, List.length_map] at this
 rw [this] at h; simp at h
theorem sc_len2 (h : (!decide (((l.length : Nat) : Int) = ((l2.length : Nat) : Int))) = false) : l.length = l2.length := by
 have := of_decide_eq_true (nt_f h); omega
theorem sc_step (hm : l[k]? = some m) (hm2 : l2[k]? = some m2) (hs : (l.take k).map ns = (l2.take k).map ns) (h : (!same m m2) = false) : (l.take (k + 1)).map ns = (l2.take (k + 1)).map ns := by
 rw [take_succ_get hm, take_succ_get hm2, List.map_append, List.map_append, hs, List.map_singleton, List.map_singleton, same_ns.1 (nt_f h)]
theorem sc_no (hm : l[k]? = some m) (hm2 : l2[k]? = some m2) (h : (!same m m2) = true) : decide (l.map ns = l2.map ns) = false := by
 refine decide_eq_false fun e => ?_
 have := congrArg (fun x => x[k]?) e
 simp only [List.getElem?_map, hm, hm2, Option.map_some, Option.some.injEq] at this
 rw [same_ns.2 this] at h; cases h
theorem sc_yes (hl : l.length = l2.length) (hk : l.length ≤ k) (hs : (l.take k).map ns = (l2.take k).map ns) : decide (l.map ns = l2.map ns) = true := by
 rw [List.take_of_length_le hk, List.take_of_length_le (by omega)] at hs
 exact decide_eq_true hs
end
theorem rSameChain_v_ {w : World} {l l2 : List NM} {A1 A2 : Option Addr} {c1 c2 : Nat} (f1 : NotesV w w (.slice A1 l.length c1) l) (f2 : NotesV w w (.slice A2 l2.length c2) l2) : Calls Tryz.prog 9 [.slice A1 l.length c1, .slice A2 l2.length c2].toArray w (Fix (.bool (decide (l.map ns = l2.map ns))) w) := by
 have hbd1 := Nat.le_trans (SliceOf.cap_ f1) (SliceOf.lens f1).2
 refine calls_start Tryz.func9 rfl rfl ?_
 intro az Z
 rw [Tryz.ntmps9] at Z
 refine wp_seq_k fun _ k1 => wp_region_lit ?_
 refine L (r_as Z rfl) Z rfl ?_; clear Z az; intro az Z
 refine k1 _ _ (wp_seq_k fun _ k2 => ?_)
 refine wp_seq_k fun _ k3 => wp_region_lit ?_
 refine L (r_mv Z rfl) Z rfl ?_; clear Z az; intro az Z
 refine L (r_lenL Tryz.underlying22 Z rfl) Z rfl ?_; clear Z az; intro az Z
 refine L (r_mv Z rfl) Z rfl ?_; clear Z az; intro az Z
 refine L (r_lenL Tryz.underlying22 Z rfl) Z rfl ?_; clear Z az; intro az Z
 refine L (r_neI Z rfl rfl) Z rfl ?_; clear Z az; intro az Z
 refine k3 _ _ ?_
 refine br Z rfl (fun hc4 => ?_) (fun hc4 => ?_)
 ·
  have p5 := of_decide_eq_false (nt_t hc4)
  refine wp_seq_k fun _ k6 => wp_region_lit ?_
  refine L (r_as Z rfl) Z rfl ?_; clear Z az; intro az Z
  refine k6 _ _ ?_
  refine wp_ret ?_
  show bodyPost _ _ _ .ret _ _
  refine ret_of (vs := [.bool (false)]) Z Tryz.results9 ⟨rfl, trivial⟩ ?_
  rw [sc_len hc4]
  exact ⟨rfl, (Only.refl NoF w)⟩
 ·
  have p7 := of_decide_eq_true (nt_f hc4)
  refine wp_skip ?_
  refine k2 _ _ (wp_seq_k fun _ k8 => ?_)
  refine wp_seq_k fun _ k9 => wp_region_lit ?_
  refine L (r_as Z rfl) Z rfl ?_; clear Z az; intro az Z
  refine k9 _ _ ?_
  refine wp_block ?_
  refine wp_loop_m (fun mz az W => ∃ k : Nat, mz = l.length - k ∧ Fr 27 [(0, .slice A1 (l.length) c1), (1, .slice A2 (l2.length) c2), (5, .int .i64 ((k : Int)))] az ∧ (k ≤ l.length) ∧ ((l.take k).map ns = (l2.take k).map ns) ∧ Only NoF w W) ?_ ?_
  ·
   exact ⟨_, 0, rfl, Z.cut ⟨rfl, rfl, rfl, trivial⟩, Nat.zero_le _, rfl, (Only.refl NoF w)⟩
  clear Z az
  rintro mz az w10 ⟨k, hm12, Z, hk, hsm, o11⟩
  have hll := sc_len2 hc4
  refine wp_seq_k fun _ k13 => ?_
  refine wp_seq_k fun _ k14 => wp_region_lit ?_
  refine L (r_mv Z rfl) Z rfl ?_; clear Z az; intro az Z
  refine L (r_mv Z rfl) Z rfl ?_; clear Z az; intro az Z
  refine L (r_lenL Tryz.underlying22 Z rfl) Z rfl ?_; clear Z az; intro az Z
  refine L (r_ltI Z rfl rfl) Z rfl ?_; clear Z az; intro az Z
  refine k14 _ _ ?_
  refine br Z rfl (fun hc15 => ?_) (fun hc15 => ?_)
  ·
   have p16 := of_decide_eq_true hc15
   refine wp_skip ?_
   refine k13 _ _ (wp_seq_k fun _ k17 => ?_)
   refine wp_block ?_
   refine wp_seq_k fun _ k18 => ?_
   refine reg_p NoF 1 [8] (.rd 0 (.rd 1 (.rd 2 (.rd 3 (.rd 4 (.rd 5 (.rd 6 (.rd 7 (.ex 8 (.rd 9 .nil)))))))))) (by kernel_rfl) (by kernel_rfl) (fun _ _ _ _ _ h => h) fun w19 o20 => ?_
   refine Pl.MSP (b := true) (by kernel_rfl) (fun W oW => r_mv Z rfl) Z rfl rfl ?_; clear Z az; intro az Z
   refine Pl.MSP (b := true) (by kernel_rfl) (fun W oW => r_mv Z rfl) Z rfl rfl ?_; clear Z az; intro az Z
   have hk21 : k < (l).length := by omega
   have O27 : Only NoF w w19 := (Only.trans' o11 o20)
   have h28 := (SliceOf.kp f1 O27 (fun _ _ h => h) (fun _ _ _ _ h => h))
   obtain ⟨m22, hm23, ok24, hA25⟩ := Row.el (KNote w) h28 hk21
   have E26 : ∀ W, Only NoF w19 W → CA W (eA A1 5 (k)) [.int .i64 (m22.h), .int .i64 (m22.n), .int .i64 (m22.d), .slice m22.A (m22.l.length) m22.c, strV (m22.s)] := Row.ce (KNote w) h28 hm23 rfl
   refine Pl.MSP (b := true) (by kernel_rfl) (fun W oW => r_ia (k := k) (size := 5) Tryz.underlying22 Tryz.sizeOf43 Z rfl rfl rfl hk21 hA25) Z rfl rfl ?_; clear Z az; intro az Z
   refine Pl.MSP (b := true) (by kernel_rfl) (fun W oW => r_ldA Tryz.isAgg43 Tryz.sizeOf43 Z rfl (E26 _ (Only.trans' (Only.refl NoF w19) oW)) rfl) Z rfl rfl ?_; clear Z az; intro az Z
   refine Pl.MSP (b := true) (by kernel_rfl) (fun W oW => r_mv Z rfl) Z rfl rfl ?_; clear Z az; intro az Z
   refine Pl.MSP (b := true) (by kernel_rfl) (fun W oW => r_mv Z rfl) Z rfl rfl ?_; clear Z az; intro az Z
   have hk29 : k < (l2).length := by omega
   have h35 := (SliceOf.kp f2 O27 (fun _ _ h => h) (fun _ _ _ _ h => h))
   obtain ⟨m30, hm31, ok32, hA33⟩ := Row.el (KNote w) h35 hk29
   have E34 : ∀ W, Only NoF w19 W → CA W (eA A2 5 (k)) [.int .i64 (m30.h), .int .i64 (m30.n), .int .i64 (m30.d), .slice m30.A (m30.l.length) m30.c, strV (m30.s)] := Row.ce (KNote w) h35 hm31 rfl
   refine Pl.MSP (b := true) (by kernel_rfl) (fun W oW => r_ia (k := k) (size := 5) Tryz.underlying22 Tryz.sizeOf43 Z rfl rfl rfl hk29 hA33) Z rfl rfl ?_; clear Z az; intro az Z
   refine Pl.MSP (b := true) (by kernel_rfl) (fun W oW => r_ldA Tryz.isAgg43 Tryz.sizeOf43 Z rfl (E34 _ (Only.trans' (Only.refl NoF w19) oW)) rfl) Z rfl rfl ?_; clear Z az; intro az Z
   have h36 := (SliceOf.kp ok24.2.2.2.1 O27 (fun _ _ h => h) (fun _ _ _ _ h => h))
   have h37 := (SliceOf.kp ok32.2.2.2.1 O27 (fun _ _ h => h) (fun _ _ _ _ h => h))
   refine Pl.MSV (v := .bool (same m22 m30)) Z rfl rfl rfl Tryz.call33 (rSame_v (m := m22) (m2 := m30) h36 h37) rfl (fun w' o' => ⟨fun _ => o', (Only.trans (Only.refl NoF w19) o' (fun _ h => h.elim))⟩) fun w38 o39 => ?_; clear Z az; intro az Z
   refine Pl.MSP (b := true) (by kernel_rfl) (fun W oW => r_not Z rfl) Z rfl rfl ?_; clear Z az; intro az Z
   refine wpPl_nil ?_
   refine k18 _ _ ?_
   refine br Z rfl (fun hc40 => ?_) (fun hc40 => ?_)
   ·
    have q41 : same m22 m30 = false := (nt_t hc40)
    refine wp_seq_k fun _ k42 => wp_region_lit ?_
    refine L (r_as Z rfl) Z rfl ?_; clear Z az; intro az Z
    refine k42 _ _ ?_
    refine wp_ret ?_
    show bodyPost _ _ _ .ret _ _
    refine ret_of (vs := [.bool (false)]) Z Tryz.results9 ⟨rfl, trivial⟩ ?_
    have O43 : Only NoF w w38 := (Only.trans' O27 o39)
    rw [sc_no hm23 hm31 hc40]
    exact ⟨rfl, O43⟩
   ·
    have q44 : same m22 m30 = true := (nt_f hc40)
    refine wp_skip ?_
    refine k17 _ _ ?_
    refine wp_region_lit ?_
    refine L (r_mv Z rfl) Z rfl ?_; clear Z az; intro az Z
    have i45 : I64 (((k : Int) + 1)) := by unfold I64; omega
    refine L (r_addI (r := ((k : Int) + 1)) Z rfl rfl rfl i45) Z rfl ?_; clear Z az; intro az Z
    refine L (r_as Z rfl) Z rfl ?_; clear Z az; intro az Z
    have O46 : Only NoF w w38 := (Only.trans' O27 o39)
    exact ⟨_, (by omega), k + 1, rfl, Z.cut ⟨rfl, rfl, rfl, trivial⟩, (by omega), (sc_step hm23 hm31 hsm hc40), O46⟩
  ·
   have p47 := of_decide_eq_false hc15
   refine wp_exit ?_
   refine th_exit ?_
   refine th_exit ?_
   refine ib_hit ?_
   refine k8 _ _ (wp_seq_k fun _ k48 => wp_region_lit ?_)
   refine L (r_as Z rfl) Z rfl ?_; clear Z az; intro az Z
   refine k48 _ _ ?_
   refine wp_ret ?_
   show bodyPost _ _ _ .ret _ _
   refine ret_of (vs := [.bool (true)]) Z Tryz.results9 ⟨rfl, trivial⟩ ?_
   rw [sc_yes hll (by omega) hsm]
   exact ⟨rfl, o11⟩
theorem rSameChain_v {w : World} {v v2 : Value} {l l2 : List NM} (f1 : NotesV w w v l) (f2 : NotesV w w v2 l2) : Calls Tryz.prog 9 #[v, v2] w (Fix (.bool (decide (l.map ns = l2.map ns))) w) := by
 obtain ⟨A1, c1, rfl, _⟩ := SliceOf.shape f1
 obtain ⟨A2, c2, rfl, _⟩ := SliceOf.shape f2
 exact rSameChain_v_ f1 f2
end
end Go.Proofs.YtdcbjedkddgfkaaGreatDoor
