/-
  Gossip: the law's examples, walked: they hold. Condition: the listed variables.
-/
import Derived.Test.YtdcbjedkddgfkaaGreatDoorGE
namespace Go.Proofs.YtdcbjedkddgfkaaGreatDoor
set_option linter.unusedVariables false
set_option linter.unusedSimpArgs false
set_option linter.unusedSectionVars false
open Go.RowKit
section
variable {w : World} {S : Nat → Prop} {h n d : Int} {A : Option Addr} {l : List RM} {c : Nat} {t : Str} {m : NM} {L N : List NM}
theorem okN_mk (hb : I64 h ∧ I64 n ∧ I64 d) (hr : SliceOf S 2 KRef.R w (.slice A l.length c) l) (hs : t.length ≤ maxLen) : okN S w ⟨h, n, d, A, l, c, t⟩ := ⟨hb.1, hb.2.1, hb.2.2, hr, hs⟩
theorem ok_cons (h1 : okN S w m) (h2 : OkNs S w L) : OkNs S w (m :: L) := fun x hx => by
 rcases List.mem_cons.1 hx with e | e
 · rw [e]; exact h1
 · exact h2 x e
theorem ns_len_le {k : Nat} (h : L.map ns = N) (hk : N.length ≤ k) : L.length ≤ k := by
 have := congrArg List.length h
 rw [List.length_map] at this
 omega
theorem ord_lim {l : List NM} (h : L.map ns = orderN (joinN l)) (hl : l.length ≤ 1000000) : L.length ≤ 1000000 :=
 ns_len_le h (Nat.le_trans (order_len (join_up l)) (Nat.le_trans (joinN_le l) hl))
theorem pst_lim {l : List NM} {x : Int} (h : L.map ns = pastOfN (joinN l) x) : L.length ≤ 1000000 := by
 refine ns_len_le h ?_
 rw [past_of (join_up l)]
 exact Nat.le_trans (past_400 _) (by omega)
theorem lss_lim {J : List NM} {l : List NM} (h : L.map ns = lessN (joinN l) J) (hl : l.length ≤ 1000000) : L.length ≤ 1000000 :=
 ns_len_le h (Nat.le_trans (less_le _ _) (Nat.le_trans (joinN_le l) hl))
theorem forks_ok (l : List NM) : ∀ x ∈ forksN (joinN l), KInt.ok x := fun x hx => by
 unfold forksN at hx
 obtain ⟨y, hy, rfl⟩ := List.mem_map.1 hx
 obtain ⟨m, h1, h2⟩ := hou_mem _ _ y (List.mem_filter.1 hy).1
 have h3 := right_bnd (join_good l m h1).1
 show I64 y.h
 unfold I64; omega
end
/-! ### the examples, in plain Lean -/
def mA : NM := ⟨0, 0, 5, none, [], 0, []⟩
def mB : NM := ⟨0, 1, 5, none, [], 0, []⟩
def mC : NM := ⟨1, 0, 4, none, [], 0, []⟩
def mD (A : Option Addr) : NM := ⟨1, 1, 4, A, [⟨0, 0⟩], 1, []⟩
def mE : NM := ⟨0, 0, 9, none, [], 0, []⟩
section
variable {A : Option Addr}
theorem sm_1 : orderN (joinN [mD A, mB, mA, mC, mA]) = [mC, mA, mD A, mB].map ns := by
 rw [← join_map]; show orderN (joinN [mD none, mB, mA, mC, mA]) = [mC, mA, ns (mD none), mB]; decide +kernel
theorem sm_2 : forksN (joinN [mD A, mB, mA, mC, mA]) = [] := by
 rw [← join_map]; show forksN (joinN [mD none, mB, mA, mC, mA]) = []; decide +kernel
theorem sm_3 : missN (joinN [mD A, mB, mA, mC, mA]) = [] := by
 rw [← join_map]; show missN (joinN [mD none, mB, mA, mC, mA]) = []; decide +kernel
theorem sm_4 : joinN ([mD A, mB, mA, mC, mA] ++ [mB, mC, mD A]) = [mA, mB, mC, mD A].map ns := by
 rw [← join_map]; show joinN [mD none, mB, mA, mC, mA, mB, mC, mD none] = [mA, mB, mC, ns (mD none)]; decide +kernel
theorem sm_5 : headsN (joinN [mD A, mB, mA, mC, mA]) = [⟨0, 2⟩, ⟨1, 2⟩] := by
 rw [← join_map]; show headsN (joinN [mD none, mB, mA, mC, mA]) = [⟨0, 2⟩, ⟨1, 2⟩]; decide +kernel
theorem sm_6 : orderN (joinN [mB, mC, mD A]) = [mC].map ns := by
 rw [← join_map]; show orderN (joinN [mB, mC, mD none]) = [mC]; decide +kernel
theorem sm_7 : missN (joinN [mB, mC, mD A]) = [⟨0, 0⟩] := by
 rw [← join_map]; show missN (joinN [mB, mC, mD none]) = [⟨0, 0⟩]; decide +kernel
theorem sm_8 : pastOfN (joinN [mD A, mB, mA, mC, mA]) 0 = [mA, mB].map ns := by
 rw [← join_map]; show pastOfN (joinN [mD none, mB, mA, mC, mA]) 0 = [mA, mB]; decide +kernel
theorem sm_9 : lessN (joinN [mB, mC, mD A]) (joinN [mD A, mB, mA, mC, mA]) = [] := by
 rw [← join_map, ← join_map [mD A, mB, mA, mC, mA]]; show lessN (joinN [mB, mC, mD none]) (joinN [mD none, mB, mA, mC, mA]) = []; decide +kernel
theorem sm_10 : lessN (joinN [mD A, mB, mA, mC, mA]) (joinN [mB, mC, mD A]) = [mA].map ns := by
 rw [← join_map, ← join_map [mB, mC, mD A]]; show lessN (joinN [mD none, mB, mA, mC, mA]) (joinN [mB, mC, mD none]) = [mA]; decide +kernel
theorem sm_11 : orderN (joinN [mA, mB, mC, mD A, mE]) = [mC, mD A].map ns := by
 rw [← join_map]; show orderN (joinN [mA, mB, mC, mD none, mE]) = [mC, ns (mD none)]; decide +kernel
theorem sm_12 : forksN (joinN [mA, mB, mC, mD A, mE]) = [0] := by
 rw [← join_map]; show forksN (joinN [mA, mB, mC, mD none, mE]) = [0]; decide +kernel
theorem sm_13 : pastOfN (joinN [mA, mB, mC, mD A, mE]) 0 = [] := by
 rw [← join_map]; show pastOfN (joinN [mA, mB, mC, mD none, mE]) 0 = []; decide +kernel
end
theorem ns_nil {L N : List NM} (h : L.map ns = N) (e : N = []) : L.length = 0 := by
 rw [e] at h
 have := congrArg List.length h
 rwa [List.length_map] at this
section
variable {P : Program} {w : World} {n : Nat} {l : List (Nat × Value)} {a : Act} {dst : Option Tmp} {ty : TypeId} {pos : String} {aft : Array Edge} {g : Option (Nat × Bool)} {x : Operand}
theorem r_len0 {t e : TypeId} {A : Option Addr} {k c : Nat} (hu : P.underlying t = some (.slice e)) (H : Fr n l a) (hx : ev l x = some (.slice A k c)) (hk : k = 0) : (execOp a.eval ⟨dst, .call { callee := .builtin .len, args := #[x], argTypes := #[t] }, ty, pos, aft, g⟩).run P w = .ok (.value (.int .i64 0)) w := by
 subst hk
 exact r_lenL hu H hx
end
set_option maxRecDepth 20000 in
set_option maxHeartbeats 4000000 in
theorem small39_v {w : World} (hG : Gr w) : Calls Tryz.prog 5 [].toArray w (Fix (.bool true) w) := by
 refine calls_start Tryz.func5 rfl rfl ?_
 intro az Z
 rw [Tryz.ntmps5] at Z
 refine wp_seq_k fun _ k1 => wp_region_lit ?_
 refine L (r_as Z rfl) Z rfl ?_; clear Z az; intro az Z
 refine k1 _ _ (wp_seq_k fun _ k2 => wp_region_lit ?_)
 refine LCV (v := .agg #[.int .i64 (0), .int .i64 (0), .int .i64 (5), .slice none (0) 0, strV ([])]) Z rfl rfl Tryz.call29 (note39_v _ 0 0 5) rfl fun w3 o4 => ?_; clear Z az; intro az Z
 refine LAl (v := .agg #[.int .i64 (0), .int .i64 (0), .int .i64 (0), .slice none (0) 0, strV ([])]) Tryz.zeroValue43 Z rfl rfl ?_
 clear Z az; intro g5 w6 hg9 hl10 o7 B8 az Z
 refine LSt (cs' := [.int .i64 (0), .int .i64 (0), .int .i64 (5), .slice none (0) 0, strV ([])]) Tryz.sizeOf43 Z rfl rfl rfl rfl rfl ⟨rfl, rfl, rfl, rfl, rfl, trivial⟩ B8 rfl rfl fun w11 s12 B13 => ?_
 refine k2 _ _ (wp_seq_k fun _ k14 => wp_region_lit ?_)
 refine LCV (v := .agg #[.int .i64 (0), .int .i64 (1), .int .i64 (5), .slice none (0) 0, strV ([])]) Z rfl rfl Tryz.call29 (note39_v _ 0 1 5) rfl fun w15 o16 => ?_; clear Z az; intro az Z
 refine LAl (v := .agg #[.int .i64 (0), .int .i64 (0), .int .i64 (0), .slice none (0) 0, strV ([])]) Tryz.zeroValue43 Z rfl rfl ?_
 clear Z az; intro g17 w18 hg21 hl22 o19 B20 az Z
 refine LSt (cs' := [.int .i64 (0), .int .i64 (1), .int .i64 (5), .slice none (0) 0, strV ([])]) Tryz.sizeOf43 Z rfl rfl rfl rfl rfl ⟨rfl, rfl, rfl, rfl, rfl, trivial⟩ B20 rfl rfl fun w23 s24 B25 => ?_
 refine k14 _ _ (wp_seq_k fun _ k26 => wp_region_lit ?_)
 refine LCV (v := .agg #[.int .i64 (1), .int .i64 (0), .int .i64 (4), .slice none (0) 0, strV ([])]) Z rfl rfl Tryz.call29 (note39_v _ 1 0 4) rfl fun w27 o28 => ?_; clear Z az; intro az Z
 refine LAl (v := .agg #[.int .i64 (0), .int .i64 (0), .int .i64 (0), .slice none (0) 0, strV ([])]) Tryz.zeroValue43 Z rfl rfl ?_
 clear Z az; intro g29 w30 hg33 hl34 o31 B32 az Z
 refine LSt (cs' := [.int .i64 (1), .int .i64 (0), .int .i64 (4), .slice none (0) 0, strV ([])]) Tryz.sizeOf43 Z rfl rfl rfl rfl rfl ⟨rfl, rfl, rfl, rfl, rfl, trivial⟩ B32 rfl rfl fun w35 s36 B37 => ?_
 refine k26 _ _ (wp_seq_k fun _ k38 => wp_region_lit ?_)
 refine LCV (v := .agg #[.int .i64 (1), .int .i64 (1), .int .i64 (4), .slice none (0) 0, strV ([])]) Z rfl rfl Tryz.call29 (note39_v _ 1 1 4) rfl fun w39 o40 => ?_; clear Z az; intro az Z
 refine LAl (v := .agg #[.int .i64 (0), .int .i64 (0), .int .i64 (0), .slice none (0) 0, strV ([])]) Tryz.zeroValue43 Z rfl rfl ?_
 clear Z az; intro g41 w42 hg45 hl46 o43 B44 az Z
 refine LSt (cs' := [.int .i64 (1), .int .i64 (1), .int .i64 (4), .slice none (0) 0, strV ([])]) Tryz.sizeOf43 Z rfl rfl rfl rfl rfl ⟨rfl, rfl, rfl, rfl, rfl, trivial⟩ B44 rfl rfl fun w47 s48 B49 => ?_
 refine k38 _ _ (wp_seq_k fun _ k50 => wp_region_lit ?_)
 refine L (r_bd (v := .agg #[.int .i64 (0), .int .i64 (0)]) (build_Ref2 _ _) Z rfl) Z rfl ?_; clear Z az; intro az Z
 obtain ⟨A51, w52, hw, hA, r53, o54⟩ := Row.made (w := w47) KRef (e := 59) ([(⟨0, 0⟩ : RM)] : List RM) (by simp only [List.length_cons, List.length_nil]; unfold maxLen; omega)
 refine L (r_bs (z := .agg #[.int .i64 (0), .int .i64 (0)]) (size := 2) (vs := [(0, .agg #[.int .i64 (0), .int .i64 (0)])]) (cs := List.flatMap KRef.cells [(⟨0, 0⟩ : RM)]) Tryz.underlying35 Tryz.sizeOf59 Tryz.zeroValue59 rfl (Fr.evalps Z rfl) (by kernel_rfl)) Z rfl ?_
 rw [← hw, ← hA]; clear Z az; intro az Z
 clear hw hA
 have ok55 : ∀ zq ∈ ([(⟨0, 0⟩ : RM)] : List RM), KRef.ok zq := by intro zq hx; simp only [List.mem_cons, List.not_mem_nil, or_false] at hx; rcases hx with rfl <;> first | exact (show I64 (0) ∧ I64 (0) from ⟨by unfold I64; omega, by unfold I64; omega⟩)
 refine L (r_fa (m' := 3) Tryz.underlying43 rfl Tryz.sizeOf35 rfl Z rfl rfl) Z rfl ?_; clear Z az; intro az Z
 have B56 := (Blk.k B49 o54)
 refine LSt (cs' := [.int .i64 (1), .int .i64 (1), .int .i64 (4), .slice A51 (1) 1, strV ([])]) Tryz.sizeOf35 Z rfl rfl rfl rfl rfl ⟨rfl, trivial⟩ B56 rfl rfl fun w57 s58 B59 => ?_
 refine k50 _ _ (wp_seq_k fun _ k60 => wp_region_lit ?_)
 refine L (r_ldA Tryz.isAgg43 Tryz.sizeOf43 Z rfl (Blk.ca B59) rfl) Z rfl ?_; clear Z az; intro az Z
 have O62 := (Only.trans (Only.trans (Only.refl (fun _ => True) w18) s24 (fun _ _ => .inl trivial)) o28 (fun _ _ => .inl trivial))
 have ne61 : g17 ≠ g29 := (ne_of hl22 (Nat.le_trans (size_only O62) hg33))
 have O64 := (Only.trans (Only.trans (Only.trans (Only.trans (Only.trans (Only.refl (fun _ => True) w18) s24 (fun _ _ => .inl trivial)) o28 (fun _ _ => .inl trivial)) o31 (fun _ _ => .inl trivial)) s36 (fun _ _ => .inl trivial)) o40 (fun _ _ => .inl trivial))
 have ne63 : g17 ≠ g41 := (ne_of hl22 (Nat.le_trans (size_only O64) hg45))
 have B65 := (Blk.st (Blk.k (Blk.st (Blk.k (Blk.k (Blk.st (Blk.k (Blk.k B25 o28) o31) s36 ne61) o40) o43) s48 ne63) o54) s58 ne63)
 refine L (r_ldA Tryz.isAgg43 Tryz.sizeOf43 Z rfl (Blk.ca B65) rfl) Z rfl ?_; clear Z az; intro az Z
 have O67 := (Only.trans (Only.trans (Only.refl (fun _ => True) w6) s12 (fun _ _ => .inl trivial)) o16 (fun _ _ => .inl trivial))
 have ne66 : g5 ≠ g17 := (ne_of hl10 (Nat.le_trans (size_only O67) hg21))
 have O69 := (Only.trans (Only.trans (Only.trans (Only.trans (Only.trans (Only.refl (fun _ => True) w6) s12 (fun _ _ => .inl trivial)) o16 (fun _ _ => .inl trivial)) o19 (fun _ _ => .inl trivial)) s24 (fun _ _ => .inl trivial)) o28 (fun _ _ => .inl trivial))
 have ne68 : g5 ≠ g29 := (ne_of hl10 (Nat.le_trans (size_only O69) hg33))
 have O71 := (Only.trans (Only.trans (Only.trans (Only.trans (Only.trans (Only.trans (Only.trans (Only.trans (Only.refl (fun _ => True) w6) s12 (fun _ _ => .inl trivial)) o16 (fun _ _ => .inl trivial)) o19 (fun _ _ => .inl trivial)) s24 (fun _ _ => .inl trivial)) o28 (fun _ _ => .inl trivial)) o31 (fun _ _ => .inl trivial)) s36 (fun _ _ => .inl trivial)) o40 (fun _ _ => .inl trivial))
 have ne70 : g5 ≠ g41 := (ne_of hl10 (Nat.le_trans (size_only O71) hg45))
 have B72 := (Blk.st (Blk.k (Blk.st (Blk.k (Blk.k (Blk.st (Blk.k (Blk.k (Blk.st (Blk.k (Blk.k B13 o16) o19) s24 ne66) o28) o31) s36 ne68) o40) o43) s48 ne70) o54) s58 ne70)
 refine L (r_ldA Tryz.isAgg43 Tryz.sizeOf43 Z rfl (Blk.ca B72) rfl) Z rfl ?_; clear Z az; intro az Z
 have O74 := (Only.trans (Only.trans (Only.refl (fun _ => True) w30) s36 (fun _ _ => .inl trivial)) o40 (fun _ _ => .inl trivial))
 have ne73 : g29 ≠ g41 := (ne_of hl34 (Nat.le_trans (size_only O74) hg45))
 have B75 := (Blk.st (Blk.k (Blk.st (Blk.k (Blk.k B37 o40) o43) s48 ne73) o54) s58 ne73)
 refine L (r_ldA Tryz.isAgg43 Tryz.sizeOf43 Z rfl (Blk.ca B75) rfl) Z rfl ?_; clear Z az; intro az Z
 refine L (r_ldA Tryz.isAgg43 Tryz.sizeOf43 Z rfl (Blk.ca B72) rfl) Z rfl ?_; clear Z az; intro az Z
 obtain ⟨A76, w77, hw, hA, r78, o79⟩ := Row.made (w := w57) KN0 (e := 43) ([(mD A51), mB, mA, mC, mA] : List NM) (by simp only [List.length_cons, List.length_nil]; unfold maxLen; omega)
 refine L (r_bs (z := .agg #[.int .i64 (0), .int .i64 (0), .int .i64 (0), .slice none (0) 0, strV ([])]) (size := 5) (vs := [(0, .agg #[.int .i64 (1), .int .i64 (1), .int .i64 (4), .slice A51 (1) 1, strV ([])]), (1, .agg #[.int .i64 (0), .int .i64 (1), .int .i64 (5), .slice none (0) 0, strV ([])]), (2, .agg #[.int .i64 (0), .int .i64 (0), .int .i64 (5), .slice none (0) 0, strV ([])]), (3, .agg #[.int .i64 (1), .int .i64 (0), .int .i64 (4), .slice none (0) 0, strV ([])]), (4, .agg #[.int .i64 (0), .int .i64 (0), .int .i64 (5), .slice none (0) 0, strV ([])])]) (cs := List.flatMap KN0.cells [(mD A51), mB, mA, mC, mA]) Tryz.underlying22 Tryz.sizeOf43 Tryz.zeroValue43 rfl (Fr.evalps Z rfl) (by kernel_rfl)) Z rfl ?_
 rw [← hw, ← hA]; clear Z az; intro az Z
 clear hw hA
 have ok80 : ∀ zq ∈ ([(mD A51), mB, mA, mC, mA] : List NM), KN0.ok zq := by intro zq hx; simp only [List.mem_cons, List.not_mem_nil, or_false] at hx; rcases hx with rfl | rfl | rfl | rfl | rfl <;> first | exact trivial | exact trivial | exact trivial | exact trivial | exact trivial
 refine L (r_as Z rfl) Z rfl ?_; clear Z az; intro az Z
 refine k60 _ _ (wp_seq_k fun _ k81 => wp_region_lit ?_)
 have B82 := (Blk.k B65 o79)
 refine L (r_ldA Tryz.isAgg43 Tryz.sizeOf43 Z rfl (Blk.ca B82) rfl) Z rfl ?_; clear Z az; intro az Z
 have B83 := (Blk.k B75 o79)
 refine L (r_ldA Tryz.isAgg43 Tryz.sizeOf43 Z rfl (Blk.ca B83) rfl) Z rfl ?_; clear Z az; intro az Z
 have B84 := (Blk.k B59 o79)
 refine L (r_ldA Tryz.isAgg43 Tryz.sizeOf43 Z rfl (Blk.ca B84) rfl) Z rfl ?_; clear Z az; intro az Z
 obtain ⟨A85, w86, hw, hA, r87, o88⟩ := Row.made (w := w77) KN0 (e := 43) ([mB, mC, (mD A51)] : List NM) (by simp only [List.length_cons, List.length_nil]; unfold maxLen; omega)
 refine L (r_bs (z := .agg #[.int .i64 (0), .int .i64 (0), .int .i64 (0), .slice none (0) 0, strV ([])]) (size := 5) (vs := [(0, .agg #[.int .i64 (0), .int .i64 (1), .int .i64 (5), .slice none (0) 0, strV ([])]), (1, .agg #[.int .i64 (1), .int .i64 (0), .int .i64 (4), .slice none (0) 0, strV ([])]), (2, .agg #[.int .i64 (1), .int .i64 (1), .int .i64 (4), .slice A51 (1) 1, strV ([])])]) (cs := List.flatMap KN0.cells [mB, mC, (mD A51)]) Tryz.underlying22 Tryz.sizeOf43 Tryz.zeroValue43 rfl (Fr.evalps Z rfl) (by kernel_rfl)) Z rfl ?_
 rw [← hw, ← hA]; clear Z az; intro az Z
 clear hw hA
 have ok89 : ∀ zq ∈ ([mB, mC, (mD A51)] : List NM), KN0.ok zq := by intro zq hx; simp only [List.mem_cons, List.not_mem_nil, or_false] at hx; rcases hx with rfl | rfl | rfl <;> first | exact trivial | exact trivial | exact trivial
 refine L (r_as Z rfl) Z rfl ?_; clear Z az; intro az Z
 refine k81 _ _ (wp_seq_k fun _ k90 => ?_)
 refine reg_p NoF 2 [4, 5] (.rd 0 (.rd 1 (.rd 2 (.rd 3 (.ex 4 (.ex 5 (.rd 6 .nil))))))) (by kernel_rfl) (by kernel_rfl) (fun _ _ _ _ _ h => h) fun w91 o92 => ?_
 have B93 := (Blk.k (Blk.k (Blk.k B72 o79) o88) o92)
 have B94 := (Blk.k (Blk.k B82 o88) o92)
 have B95 := (Blk.k (Blk.k B83 o88) o92)
 have B96 := (Blk.k (Blk.k B84 o88) o92)
 refine Pl.MSP (b := true) (by kernel_rfl) (fun W oW => r_ldA Tryz.isAgg43 Tryz.sizeOf43 Z rfl (Blk.ca (Blk.k B93 oW)) rfl) Z rfl rfl ?_; clear Z az; intro az Z
 refine Pl.MSP (b := true) (by kernel_rfl) (fun W oW => r_ldA Tryz.isAgg43 Tryz.sizeOf43 Z rfl (Blk.ca (Blk.k B94 oW)) rfl) Z rfl rfl ?_; clear Z az; intro az Z
 refine Pl.MSP (b := true) (by kernel_rfl) (fun W oW => r_ldA Tryz.isAgg43 Tryz.sizeOf43 Z rfl (Blk.ca (Blk.k B95 oW)) rfl) Z rfl rfl ?_; clear Z az; intro az Z
 refine Pl.MSP (b := true) (by kernel_rfl) (fun W oW => r_ldA Tryz.isAgg43 Tryz.sizeOf43 Z rfl (Blk.ca (Blk.k B96 oW)) rfl) Z rfl rfl ?_; clear Z az; intro az Z
 refine Pl.MSV (v := .agg #[.int .i64 (0), .int .i64 (0), .int .i64 (9), .slice none (0) 0, strV ([])]) Z rfl rfl rfl Tryz.call29 (note39_v _ 0 0 9) rfl (fun w' o' => ⟨fun _ => o', (Only.trans (Only.refl NoF w91) o' (fun _ h => h.elim))⟩) fun w97 o98 => ?_; clear Z az; intro az Z
 obtain ⟨A99, w100, hw, hA, r101, o102⟩ := Row.made (w := w97) KN0 (e := 43) ([mA, mB, mC, (mD A51), mE] : List NM) (by simp only [List.length_cons, List.length_nil]; unfold maxLen; omega)
 refine Pl.MD (r_bs (z := .agg #[.int .i64 (0), .int .i64 (0), .int .i64 (0), .slice none (0) 0, strV ([])]) (size := 5) (vs := [(0, .agg #[.int .i64 (0), .int .i64 (0), .int .i64 (5), .slice none (0) 0, strV ([])]), (1, .agg #[.int .i64 (0), .int .i64 (1), .int .i64 (5), .slice none (0) 0, strV ([])]), (2, .agg #[.int .i64 (1), .int .i64 (0), .int .i64 (4), .slice none (0) 0, strV ([])]), (3, .agg #[.int .i64 (1), .int .i64 (1), .int .i64 (4), .slice A51 (1) 1, strV ([])]), (4, .agg #[.int .i64 (0), .int .i64 (0), .int .i64 (9), .slice none (0) 0, strV ([])])]) (cs := List.flatMap KN0.cells [mA, mB, mC, (mD A51), mE]) Tryz.underlying22 Tryz.sizeOf43 Tryz.zeroValue43 rfl (Fr.evalps Z rfl) (by kernel_rfl)) Z rfl rfl ?_ ?_
 · rw [← hw]; exact ⟨fun _ => (Only.trans' o98 o102), (Only.trans (Only.trans (Only.refl NoF w91) o98 (fun _ h => h.elim)) o102 (fun _ h => h.elim))⟩
 rw [← hw, ← hA]; clear Z az; intro az Z
 clear hw hA
 have ok103 : ∀ zq ∈ ([mA, mB, mC, (mD A51), mE] : List NM), KN0.ok zq := by intro zq hx; simp only [List.mem_cons, List.not_mem_nil, or_false] at hx; rcases hx with rfl | rfl | rfl | rfl | rfl <;> first | exact trivial | exact trivial | exact trivial | exact trivial | exact trivial
 refine Pl.MSP (b := true) (by kernel_rfl) (fun W oW => r_as Z rfl) Z rfl rfl ?_; clear Z az; intro az Z
 refine wpPl_nil ?_
 refine k90 _ _ ?_
 refine wp_join (fun az W => Fr 137 [(1, .pointer (some ((⟨g5, 0, none⟩ : Addr)))), (2, .pointer (some ((⟨g17, 0, none⟩ : Addr)))), (3, .pointer (some ((⟨g29, 0, none⟩ : Addr)))), (4, .pointer (some ((⟨g41, 0, none⟩ : Addr)))), (5, .slice A76 (5) 5), (6, .slice A85 (3) 3), (7, .slice A99 (5) 5), (8, .bool (true))] az ∧ Only NoF w100 W) ?_ ?_
 ·
  refine reg_p NoF 11 [1, 6, 7, 10, 16, 23, 28, 29, 33, 36, 37] (.rd 0 (.rd 2 (.rd 3 (.rd 4 (.rd 5 (.fork 1 (.ex 6 (.ex 7 (.rd 8 (.rd 9 (.ex 10 (.rd 11 (.rd 12 (.rd 13 (.rd 14 (.rd 15 (.ex 16 (.rd 17 (.rd 18 (.rd 19 (.rd 20 (.rd 21 (.rd 22 (.rd 24 (.rd 25 (.rd 26 (.rd 27 (.fork 23 (.ex 28 (.ex 29 (.rd 30 (.rd 31 (.rd 32 (.rd 34 (.rd 35 (.fork 33 (.ex 36 (.ex 37 (.rd 38 (.rd 39 .nil)))) 36 (.ex 33 (.ex 37 (.rd 38 (.rd 39 .nil)))))))))))) 28 (.ex 23 (.ex 29 (.rd 30 (.rd 31 (.rd 32 (.rd 34 (.rd 35 (.fork 33 (.ex 36 (.ex 37 (.rd 38 (.rd 39 .nil)))) 36 (.ex 33 (.ex 37 (.rd 38 (.rd 39 .nil)))))))))))))))))))))))))))))))))) 6 (.ex 1 (.ex 7 (.rd 8 (.rd 9 (.ex 10 (.rd 11 (.rd 12 (.rd 13 (.rd 14 (.rd 15 (.ex 16 (.rd 17 (.rd 18 (.rd 19 (.rd 20 (.rd 21 (.rd 22 (.rd 24 (.rd 25 (.rd 26 (.rd 27 (.fork 23 (.ex 28 (.ex 29 (.rd 30 (.rd 31 (.rd 32 (.rd 34 (.rd 35 (.fork 33 (.ex 36 (.ex 37 (.rd 38 (.rd 39 .nil)))) 36 (.ex 33 (.ex 37 (.rd 38 (.rd 39 .nil)))))))))))) 28 (.ex 23 (.ex 29 (.rd 30 (.rd 31 (.rd 32 (.rd 34 (.rd 35 (.fork 33 (.ex 36 (.ex 37 (.rd 38 (.rd 39 .nil)))) 36 (.ex 33 (.ex 37 (.rd 38 (.rd 39 .nil)))))))))))))))))))))))))))))))))))))))) (by kernel_rfl) (by kernel_rfl) (fun _ _ _ _ _ h => h) fun w104 o105 => ?_
  have B106 := (Blk.k (Blk.k (Blk.k B95 o98) o102) o105)
  have B107 := (Blk.k (Blk.k (Blk.k B93 o98) o102) o105)
  have B108 := (Blk.k (Blk.k (Blk.k B96 o98) o102) o105)
  have B109 := (Blk.k (Blk.k (Blk.k B94 o98) o102) o105)
  refine Pl.MSP (b := true) (by kernel_rfl) (fun W oW => r_mv Z rfl) Z rfl rfl ?_; clear Z az; intro az Z
  refine Pl.MSP (b := true) (by kernel_rfl) (fun W oW => r_ldA Tryz.isAgg43 Tryz.sizeOf43 Z rfl (Blk.ca (Blk.k B106 oW)) rfl) Z rfl rfl ?_; clear Z az; intro az Z
  refine Pl.MSP (b := true) (by kernel_rfl) (fun W oW => r_ldA Tryz.isAgg43 Tryz.sizeOf43 Z rfl (Blk.ca (Blk.k B107 oW)) rfl) Z rfl rfl ?_; clear Z az; intro az Z
  refine Pl.MSP (b := true) (by kernel_rfl) (fun W oW => r_ldA Tryz.isAgg43 Tryz.sizeOf43 Z rfl (Blk.ca (Blk.k B108 oW)) rfl) Z rfl rfl ?_; clear Z az; intro az Z
  refine Pl.MSP (b := true) (by kernel_rfl) (fun W oW => r_ldA Tryz.isAgg43 Tryz.sizeOf43 Z rfl (Blk.ca (Blk.k B109 oW)) rfl) Z rfl rfl ?_; clear Z az; intro az Z
  refine wpPl_fork ?_ ?_
  ·
   have O111 : Only NoF w w15 := (Only.trans' (o_sg (Only.trans' o4 o7) s12 (size_only o4) (oneF_ge hg9)) o16)
   have O112 : Only NoF w w27 := (Only.trans' (o_sg (Only.trans' O111 o19) s24 (size_only O111) (oneF_ge hg21)) o28)
   have O113 : Only NoF w w39 := (Only.trans' (o_sg (Only.trans' O112 o31) s36 (size_only O112) (oneF_ge hg33)) o40)
   have O114 : Only NoF w w104 := (Only.trans' (Only.trans' (Only.trans' (Only.trans' (Only.trans' (Only.trans' (o_sg (Only.trans' (o_sg (Only.trans' (Only.trans' (o_sg (Only.trans' (Only.trans' (o_sg (Only.trans' (Only.trans' (o_sg (Only.trans' o4 o7) s12 (size_only o4) (oneF_ge hg9)) o16) o19) s24 (size_only O111) (oneF_ge hg21)) o28) o31) s36 (size_only O112) (oneF_ge hg33)) o40) o43) s48 (size_only O113) (oneF_ge hg45)) o54) s58 (size_only O113) (oneF_ge hg45)) o79) o88) o92) o98) o102) o105)
   have G110 := Gr.k hG O114
   have h115 := Row.own KRef r53 ok55
   have O116 := (Only.trans (Only.refl (fun _ => True) w42) s48 (fun _ _ => .inl trivial))
   have O117 : Only NoF w57 w104 := (Only.trans' (Only.trans' (Only.trans' (Only.trans' (Only.trans' o79 o88) o92) o98) o102) o105)
   have h118 := (SliceOf.kp (SliceOf.kp h115 s58 (ge_F (oneF_lt hl46) (size_only O116)) (fun _ _ _ _ h => h)) O117 (fun _ _ h => h) (fun _ _ _ _ h => h))
   have h119 := SliceOf.pl h118
   have r120 := (ow_k (ow_k (ow_k (ow_k (ow_k r78 o88) o92) o98) o102) o105)
   have nt121 : NtV w104 (.slice A76 (List.length ([(mD A51), mB, mA, mC, mA] : List NM)) 5) [(mD A51), mB, mA, mC, mA] := ⟨SliceOf.pl (Row.own KN0 r120 (fun _ _ => trivial)), (ok_cons (okN_mk (by unfold I64; omega) h119 (by unfold maxLen; decide)) (ok_cons (okN_mk (by unfold I64; omega) (SliceOf.nil_ _ _ _) (by unfold maxLen; decide)) (ok_cons (okN_mk (by unfold I64; omega) (SliceOf.nil_ _ _ _) (by unfold maxLen; decide)) (ok_cons (okN_mk (by unfold I64; omega) (SliceOf.nil_ _ _ _) (by unfold maxLen; decide)) (ok_cons (okN_mk (by unfold I64; omega) (SliceOf.nil_ _ _ _) (by unfold maxLen; decide)) OkNs.nil)))))⟩
   have hC129 := Order_v_ G110 nt121 (by first | omega | (simp only [List.length_cons, List.length_nil]; omega))
   refine Pl.MSC Z rfl rfl rfl Tryz.call17 (hC129) rfl ?_
   rintro e w130 ⟨A122, c123, L124, rfl, hL125, hS126, hN127, o128⟩; refine ⟨_, rfl, ⟨fun _ => o128, (Only.trans (Only.refl NoF w104) o128 (fun _ h => h.elim))⟩, ?_⟩
   clear Z az; intro az Z
   have nt131 : NtV w130 (.slice A122 (L124.length) c123) L124 := ⟨SliceOf.pl hS126, OkNs.pl hN127⟩
   have hm132 : L124.length ≤ 1000000 := (ord_lim hL125 (by first | omega | (simp only [List.length_cons, List.length_nil]; omega)))
   obtain ⟨A133, w134, hw, hA, r135, o136⟩ := Row.made (w := w130) KN0 (e := 43) ([mC, mA, (mD A51), mB] : List NM) (by simp only [List.length_cons, List.length_nil]; unfold maxLen; omega)
   refine Pl.MD (r_bs (z := .agg #[.int .i64 (0), .int .i64 (0), .int .i64 (0), .slice none (0) 0, strV ([])]) (size := 5) (vs := [(0, .agg #[.int .i64 (1), .int .i64 (0), .int .i64 (4), .slice none (0) 0, strV ([])]), (1, .agg #[.int .i64 (0), .int .i64 (0), .int .i64 (5), .slice none (0) 0, strV ([])]), (2, .agg #[.int .i64 (1), .int .i64 (1), .int .i64 (4), .slice A51 (1) 1, strV ([])]), (3, .agg #[.int .i64 (0), .int .i64 (1), .int .i64 (5), .slice none (0) 0, strV ([])])]) (cs := List.flatMap KN0.cells [mC, mA, (mD A51), mB]) Tryz.underlying22 Tryz.sizeOf43 Tryz.zeroValue43 rfl (Fr.evalps Z rfl) (by kernel_rfl)) Z rfl rfl ?_ ?_
   · rw [← hw]; exact ⟨fun _ => (Only.trans' o128 o136), (Only.trans (Only.trans (Only.refl NoF w104) o128 (fun _ h => h.elim)) o136 (fun _ h => h.elim))⟩
   rw [← hw, ← hA]; clear Z az; intro az Z
   clear hw hA
   have ok137 : ∀ zq ∈ ([mC, mA, (mD A51), mB] : List NM), KN0.ok zq := by intro zq hx; simp only [List.mem_cons, List.not_mem_nil, or_false] at hx; rcases hx with rfl | rfl | rfl | rfl <;> first | exact trivial | exact trivial | exact trivial | exact trivial
   have O138 : Only NoF w104 w134 := (Only.trans' o128 o136)
   have h139 := (SliceOf.kp h118 O138 (fun _ _ h => h) (fun _ _ _ _ h => h))
   have h140 := SliceOf.pl h139
   have nt141 : NtV w134 (.slice A133 (List.length ([mC, mA, (mD A51), mB] : List NM)) 4) [mC, mA, (mD A51), mB] := ⟨SliceOf.pl (Row.own KN0 r135 (fun _ _ => trivial)), (ok_cons (okN_mk (by unfold I64; omega) (SliceOf.nil_ _ _ _) (by unfold maxLen; decide)) (ok_cons (okN_mk (by unfold I64; omega) (SliceOf.nil_ _ _ _) (by unfold maxLen; decide)) (ok_cons (okN_mk (by unfold I64; omega) h140 (by unfold maxLen; decide)) (ok_cons (okN_mk (by unfold I64; omega) (SliceOf.nil_ _ _ _) (by unfold maxLen; decide)) OkNs.nil))))⟩
   refine Pl.MSV (v := .bool (true)) Z rfl rfl rfl Tryz.call9 (fix_eq (congrArg Value.bool (decide_eq_true (hL125.trans sm_1))) (rSameChain_v (NtV.notes (NtV.k nt131 o136)) (NtV.notes nt141))) rfl (fun w' o' => ⟨fun _ => (Only.trans' (Only.trans' o128 o136) o'), (Only.trans (Only.trans (Only.trans (Only.refl NoF w104) o128 (fun _ h => h.elim)) o136 (fun _ h => h.elim)) o' (fun _ h => h.elim))⟩) fun w142 o143 => ?_; clear Z az; intro az Z
   refine Pl.MSP (b := true) (by kernel_rfl) (fun W oW => r_mv Z rfl) Z rfl rfl ?_; clear Z az; intro az Z
   refine Pl.MSPT (b := true) (by kernel_rfl) Z rfl rfl (fun W oW => r_mv Z rfl) rfl rfl ?_; clear Z az; intro az Z
   have O145 : Only NoF w w142 := (Only.trans' (Only.trans' (Only.trans' O114 o128) o136) o143)
   have G144 := Gr.k hG O145
   have O146 : Only NoF w104 w142 := (Only.trans' O138 o143)
   have h147 := (SliceOf.kp h118 O146 (fun _ _ h => h) (fun _ _ _ _ h => h))
   have h148 := SliceOf.pl h147
   have r149 := (ow_k (ow_k (ow_k r120 o128) o136) o143)
   have nt150 : NtV w142 (.slice A76 (List.length ([(mD A51), mB, mA, mC, mA] : List NM)) 5) [(mD A51), mB, mA, mC, mA] := ⟨SliceOf.pl (Row.own KN0 r149 (fun _ _ => trivial)), (ok_cons (okN_mk (by unfold I64; omega) h148 (by unfold maxLen; decide)) (ok_cons (okN_mk (by unfold I64; omega) (SliceOf.nil_ _ _ _) (by unfold maxLen; decide)) (ok_cons (okN_mk (by unfold I64; omega) (SliceOf.nil_ _ _ _) (by unfold maxLen; decide)) (ok_cons (okN_mk (by unfold I64; omega) (SliceOf.nil_ _ _ _) (by unfold maxLen; decide)) (ok_cons (okN_mk (by unfold I64; omega) (SliceOf.nil_ _ _ _) (by unfold maxLen; decide)) OkNs.nil)))))⟩
   have hC155 := Forks_v_ G144 nt150 (by first | omega | (simp only [List.length_cons, List.length_nil]; omega))
   refine Pl.MSCT Z rfl rfl rfl rfl rfl Tryz.call13 (hC155) rfl ?_
   rintro e w156 ⟨A151, c152, rfl, r153, o154⟩; refine ⟨_, rfl, ⟨fun _ => (Only.trans' (Only.trans' (Only.trans' o128 o136) o143) o154), (Only.trans (Only.trans (Only.trans (Only.trans (Only.refl NoF w104) o128 (fun _ h => h.elim)) o136 (fun _ h => h.elim)) o143 (fun _ h => h.elim)) o154 (fun _ h => h.elim))⟩, ?_⟩
   clear Z az; intro az Z
   refine Pl.MSPT (b := true) (by kernel_rfl) Z rfl rfl (fun W oW => r_len0 Tryz.underlying30 Z rfl (by rw [sm_2]; rfl)) rfl rfl ?_; clear Z az; intro az Z
   refine Pl.MSPT (b := true) (by kernel_rfl) Z rfl rfl (fun W oW => r_eqRI Z rfl rfl) rfl rfl ?_; clear Z az; intro az Z
   refine Pl.MSP (b := true) (by kernel_rfl) (fun W oW => r_pick Z rfl rfl rfl) Z rfl rfl ?_; clear Z az; intro az Z
   refine Pl.MSP (b := true) (by kernel_rfl) (fun W oW => r_mv Z rfl) Z rfl rfl ?_; clear Z az; intro az Z
   refine Pl.MSPT (b := true) (by kernel_rfl) Z rfl rfl (fun W oW => r_mv Z rfl) rfl rfl ?_; clear Z az; intro az Z
   have O158 : Only NoF w w156 := (Only.trans' O145 o154)
   have G157 := Gr.k hG O158
   have O159 : Only NoF w104 w156 := (Only.trans' O146 o154)
   have h160 := (SliceOf.kp h118 O159 (fun _ _ h => h) (fun _ _ _ _ h => h))
   have h161 := SliceOf.pl h160
   have r162 := (ow_k r149 o154)
   have nt163 : NtV w156 (.slice A76 (List.length ([(mD A51), mB, mA, mC, mA] : List NM)) 5) [(mD A51), mB, mA, mC, mA] := ⟨SliceOf.pl (Row.own KN0 r162 (fun _ _ => trivial)), (ok_cons (okN_mk (by unfold I64; omega) h161 (by unfold maxLen; decide)) (ok_cons (okN_mk (by unfold I64; omega) (SliceOf.nil_ _ _ _) (by unfold maxLen; decide)) (ok_cons (okN_mk (by unfold I64; omega) (SliceOf.nil_ _ _ _) (by unfold maxLen; decide)) (ok_cons (okN_mk (by unfold I64; omega) (SliceOf.nil_ _ _ _) (by unfold maxLen; decide)) (ok_cons (okN_mk (by unfold I64; omega) (SliceOf.nil_ _ _ _) (by unfold maxLen; decide)) OkNs.nil)))))⟩
   have hC169 := Missing_v_ G157 nt163 (by first | omega | (simp only [List.length_cons, List.length_nil]; omega))
   refine Pl.MSCT Z rfl rfl rfl rfl rfl Tryz.call22 (hC169) rfl ?_
   rintro e w170 ⟨A164, c165, rfl, r166, ok168, o167⟩; refine ⟨_, rfl, ⟨fun _ => (Only.trans' (Only.trans' (Only.trans' (Only.trans' o128 o136) o143) o154) o167), (Only.trans (Only.trans (Only.trans (Only.trans (Only.trans (Only.refl NoF w104) o128 (fun _ h => h.elim)) o136 (fun _ h => h.elim)) o143 (fun _ h => h.elim)) o154 (fun _ h => h.elim)) o167 (fun _ h => h.elim))⟩, ?_⟩
   clear Z az; intro az Z
   refine Pl.MSPT (b := true) (by kernel_rfl) Z rfl rfl (fun W oW => r_len0 Tryz.underlying35 Z rfl (by rw [sm_3]; rfl)) rfl rfl ?_; clear Z az; intro az Z
   refine Pl.MSPT (b := true) (by kernel_rfl) Z rfl rfl (fun W oW => r_eqRI Z rfl rfl) rfl rfl ?_; clear Z az; intro az Z
   refine Pl.MSP (b := true) (by kernel_rfl) (fun W oW => r_pick Z rfl rfl rfl) Z rfl rfl ?_; clear Z az; intro az Z
   refine Pl.MSP (b := true) (by kernel_rfl) (fun W oW => r_mv Z rfl) Z rfl rfl ?_; clear Z az; intro az Z
   refine Pl.MSPT (b := true) (by kernel_rfl) Z rfl rfl (fun W oW => r_mv Z rfl) rfl rfl ?_; clear Z az; intro az Z
   refine Pl.MSPT (b := true) (by kernel_rfl) Z rfl rfl (fun W oW => r_mv Z rfl) rfl rfl ?_; clear Z az; intro az Z
   refine Pl.MSPT (b := true) (by kernel_rfl) Z rfl rfl (fun W oW => r_ldA Tryz.isAgg43 Tryz.sizeOf43 Z rfl (Blk.ca (Blk.k B107 oW)) rfl) rfl rfl ?_; clear Z az; intro az Z
   refine Pl.MSPT (b := true) (by kernel_rfl) Z rfl rfl (fun W oW => r_ldA Tryz.isAgg43 Tryz.sizeOf43 Z rfl (Blk.ca (Blk.k B109 oW)) rfl) rfl rfl ?_; clear Z az; intro az Z
   refine Pl.MSPT (b := true) (by kernel_rfl) Z rfl rfl (fun W oW => r_ldA Tryz.isAgg43 Tryz.sizeOf43 Z rfl (Blk.ca (Blk.k B106 oW)) rfl) rfl rfl ?_; clear Z az; intro az Z
   refine Pl.MSPT (b := true) (by kernel_rfl) Z rfl rfl (fun W oW => r_ldA Tryz.isAgg43 Tryz.sizeOf43 Z rfl (Blk.ca (Blk.k B108 oW)) rfl) rfl rfl ?_; clear Z az; intro az Z
   refine wpPl_fork ?_ ?_
   ·
    have O172 : Only NoF w w170 := (Only.trans' O158 o167)
    have G171 := Gr.k hG O172
    have O173 : Only NoF w104 w170 := (Only.trans' O159 o167)
    have h174 := (SliceOf.kp h118 O173 (fun _ _ h => h) (fun _ _ _ _ h => h))
    have h175 := SliceOf.pl h174
    have r176 := (ow_k r162 o167)
    have nt177 : NtV w170 (.slice A76 (List.length ([(mD A51), mB, mA, mC, mA] : List NM)) 5) [(mD A51), mB, mA, mC, mA] := ⟨SliceOf.pl (Row.own KN0 r176 (fun _ _ => trivial)), (ok_cons (okN_mk (by unfold I64; omega) h175 (by unfold maxLen; decide)) (ok_cons (okN_mk (by unfold I64; omega) (SliceOf.nil_ _ _ _) (by unfold maxLen; decide)) (ok_cons (okN_mk (by unfold I64; omega) (SliceOf.nil_ _ _ _) (by unfold maxLen; decide)) (ok_cons (okN_mk (by unfold I64; omega) (SliceOf.nil_ _ _ _) (by unfold maxLen; decide)) (ok_cons (okN_mk (by unfold I64; omega) (SliceOf.nil_ _ _ _) (by unfold maxLen; decide)) OkNs.nil)))))⟩
    have r178 := (ow_k (ow_k (ow_k (ow_k (ow_k (ow_k (ow_k (ow_k (ow_k r87 o92) o98) o102) o105) o128) o136) o143) o154) o167)
    have nt179 : NtV w170 (.slice A85 (List.length ([mB, mC, (mD A51)] : List NM)) 3) [mB, mC, (mD A51)] := ⟨SliceOf.pl (Row.own KN0 r178 (fun _ _ => trivial)), (ok_cons (okN_mk (by unfold I64; omega) (SliceOf.nil_ _ _ _) (by unfold maxLen; decide)) (ok_cons (okN_mk (by unfold I64; omega) (SliceOf.nil_ _ _ _) (by unfold maxLen; decide)) (ok_cons (okN_mk (by unfold I64; omega) h175 (by unfold maxLen; decide)) OkNs.nil)))⟩
    have hC187 := Join_v_ G171 nt177 nt179 (by first | omega | (simp only [List.length_cons, List.length_nil]; omega))
    refine Pl.MSCT Z rfl rfl rfl rfl rfl Tryz.call10 (hC187) rfl ?_
    rintro e w188 ⟨A180, c181, L182, rfl, hL183, hS184, hN185, o186⟩; refine ⟨_, rfl, ⟨fun _ => (Only.trans' (Only.trans' (Only.trans' (Only.trans' (Only.trans' o128 o136) o143) o154) o167) o186), (Only.trans (Only.trans (Only.trans (Only.trans (Only.trans (Only.trans (Only.refl NoF w104) o128 (fun _ h => h.elim)) o136 (fun _ h => h.elim)) o143 (fun _ h => h.elim)) o154 (fun _ h => h.elim)) o167 (fun _ h => h.elim)) o186 (fun _ h => h.elim))⟩, ?_⟩
    clear Z az; intro az Z
    have nt189 : NtV w188 (.slice A180 (L182.length) c181) L182 := ⟨SliceOf.pl hS184, OkNs.pl hN185⟩
    have hm190 : L182.length ≤ 1000000 := (by have h0 := congrArg List.length hL183; rw [List.length_map] at h0; rw [h0]; first | exact Nat.le_trans (joinN_le _) (by simp only [List.length_append, List.length_cons, List.length_nil]; omega))
    obtain ⟨A191, w192, hw, hA, r193, o194⟩ := Row.made (w := w188) KN0 (e := 43) ([mA, mB, mC, (mD A51)] : List NM) (by simp only [List.length_cons, List.length_nil]; unfold maxLen; omega)
    refine Pl.MDT Z rfl rfl (r_bs (z := .agg #[.int .i64 (0), .int .i64 (0), .int .i64 (0), .slice none (0) 0, strV ([])]) (size := 5) (vs := [(0, .agg #[.int .i64 (0), .int .i64 (0), .int .i64 (5), .slice none (0) 0, strV ([])]), (1, .agg #[.int .i64 (0), .int .i64 (1), .int .i64 (5), .slice none (0) 0, strV ([])]), (2, .agg #[.int .i64 (1), .int .i64 (0), .int .i64 (4), .slice none (0) 0, strV ([])]), (3, .agg #[.int .i64 (1), .int .i64 (1), .int .i64 (4), .slice A51 (1) 1, strV ([])])]) (cs := List.flatMap KN0.cells [mA, mB, mC, (mD A51)]) Tryz.underlying22 Tryz.sizeOf43 Tryz.zeroValue43 rfl (Fr.evalps Z rfl) (by kernel_rfl)) rfl rfl ?_ ?_
    · rw [← hw]; exact ⟨fun _ => (Only.trans' (Only.trans' (Only.trans' (Only.trans' (Only.trans' (Only.trans' o128 o136) o143) o154) o167) o186) o194), (Only.trans (Only.trans (Only.trans (Only.trans (Only.trans (Only.trans (Only.trans (Only.refl NoF w104) o128 (fun _ h => h.elim)) o136 (fun _ h => h.elim)) o143 (fun _ h => h.elim)) o154 (fun _ h => h.elim)) o167 (fun _ h => h.elim)) o186 (fun _ h => h.elim)) o194 (fun _ h => h.elim))⟩
    rw [← hw, ← hA]; clear Z az; intro az Z
    clear hw hA
    have ok195 : ∀ zq ∈ ([mA, mB, mC, (mD A51)] : List NM), KN0.ok zq := by intro zq hx; simp only [List.mem_cons, List.not_mem_nil, or_false] at hx; rcases hx with rfl | rfl | rfl | rfl <;> first | exact trivial | exact trivial | exact trivial | exact trivial
    have O196 : Only NoF w104 w192 := (Only.trans' (Only.trans' O173 o186) o194)
    have h197 := (SliceOf.kp h118 O196 (fun _ _ h => h) (fun _ _ _ _ h => h))
    have h198 := SliceOf.pl h197
    have nt199 : NtV w192 (.slice A191 (List.length ([mA, mB, mC, (mD A51)] : List NM)) 4) [mA, mB, mC, (mD A51)] := ⟨SliceOf.pl (Row.own KN0 r193 (fun _ _ => trivial)), (ok_cons (okN_mk (by unfold I64; omega) (SliceOf.nil_ _ _ _) (by unfold maxLen; decide)) (ok_cons (okN_mk (by unfold I64; omega) (SliceOf.nil_ _ _ _) (by unfold maxLen; decide)) (ok_cons (okN_mk (by unfold I64; omega) (SliceOf.nil_ _ _ _) (by unfold maxLen; decide)) (ok_cons (okN_mk (by unfold I64; omega) h198 (by unfold maxLen; decide)) OkNs.nil))))⟩
    refine Pl.MSGV (v := .bool (true)) Z rfl rfl gd_t rfl rfl (fun hb => rfl) Tryz.call9 (fun hb => fix_eq (congrArg Value.bool (decide_eq_true (hL183.trans sm_4))) (rSameChain_v (NtV.notes (NtV.k nt189 o194)) (NtV.notes nt199))) rfl (fun w' o' => ⟨fun _ => (Only.trans' (Only.trans' (Only.trans' (Only.trans' (Only.trans' (Only.trans' (Only.trans' o128 o136) o143) o154) o167) o186) o194) o'), (Only.trans (Only.trans (Only.trans (Only.trans (Only.trans (Only.trans (Only.trans (Only.trans (Only.refl NoF w104) o128 (fun _ h => h.elim)) o136 (fun _ h => h.elim)) o143 (fun _ h => h.elim)) o154 (fun _ h => h.elim)) o167 (fun _ h => h.elim)) o186 (fun _ h => h.elim)) o194 (fun _ h => h.elim)) o' (fun _ h => h.elim))⟩) fun w200 o201 => ?_; clear Z az; intro az Z
    refine Pl.MSP (b := true) (by kernel_rfl) (fun W oW => r_pick Z rfl rfl rfl) Z rfl rfl ?_; clear Z az; intro az Z
    refine Pl.MSP (b := true) (by kernel_rfl) (fun W oW => r_mv Z rfl) Z rfl rfl ?_; clear Z az; intro az Z
    refine Pl.MSPT (b := true) (by kernel_rfl) Z rfl rfl (fun W oW => r_mv Z rfl) rfl rfl ?_; clear Z az; intro az Z
    refine Pl.MSPT (b := true) (by kernel_rfl) Z rfl rfl (fun W oW => r_bd (v := .agg #[.int .i64 (0), .int .i64 (2)]) (build_Ref2 _ _) Z rfl) rfl rfl ?_; clear Z az; intro az Z
    refine Pl.MSPT (b := true) (by kernel_rfl) Z rfl rfl (fun W oW => r_bd (v := .agg #[.int .i64 (1), .int .i64 (2)]) (build_Ref2 _ _) Z rfl) rfl rfl ?_; clear Z az; intro az Z
    refine wpPl_fork ?_ ?_
    ·
     have O203 : Only NoF w w200 := (Only.trans' (Only.trans' (Only.trans' O172 o186) o194) o201)
     have G202 := Gr.k hG O203
     have O204 : Only NoF w104 w200 := (Only.trans' O196 o201)
     have h205 := (SliceOf.kp h118 O204 (fun _ _ h => h) (fun _ _ _ _ h => h))
     have h206 := SliceOf.pl h205
     have r207 := (ow_k (ow_k (ow_k r176 o186) o194) o201)
     have nt208 : NtV w200 (.slice A76 (List.length ([(mD A51), mB, mA, mC, mA] : List NM)) 5) [(mD A51), mB, mA, mC, mA] := ⟨SliceOf.pl (Row.own KN0 r207 (fun _ _ => trivial)), (ok_cons (okN_mk (by unfold I64; omega) h206 (by unfold maxLen; decide)) (ok_cons (okN_mk (by unfold I64; omega) (SliceOf.nil_ _ _ _) (by unfold maxLen; decide)) (ok_cons (okN_mk (by unfold I64; omega) (SliceOf.nil_ _ _ _) (by unfold maxLen; decide)) (ok_cons (okN_mk (by unfold I64; omega) (SliceOf.nil_ _ _ _) (by unfold maxLen; decide)) (ok_cons (okN_mk (by unfold I64; omega) (SliceOf.nil_ _ _ _) (by unfold maxLen; decide)) OkNs.nil)))))⟩
     have hC214 := Heads_v_ G202 nt208 (by first | omega | (simp only [List.length_cons, List.length_nil]; omega))
     refine Pl.MSCT Z rfl rfl rfl rfl rfl Tryz.call20 (hC214) rfl ?_
     rintro e w215 ⟨A209, c210, rfl, r211, ok213, o212⟩; refine ⟨_, rfl, ⟨fun _ => (Only.trans' (Only.trans' (Only.trans' (Only.trans' (Only.trans' (Only.trans' (Only.trans' (Only.trans' o128 o136) o143) o154) o167) o186) o194) o201) o212), (Only.trans (Only.trans (Only.trans (Only.trans (Only.trans (Only.trans (Only.trans (Only.trans (Only.trans (Only.refl NoF w104) o128 (fun _ h => h.elim)) o136 (fun _ h => h.elim)) o143 (fun _ h => h.elim)) o154 (fun _ h => h.elim)) o167 (fun _ h => h.elim)) o186 (fun _ h => h.elim)) o194 (fun _ h => h.elim)) o201 (fun _ h => h.elim)) o212 (fun _ h => h.elim))⟩, ?_⟩
     clear Z az; intro az Z
     obtain ⟨A216, w217, hw, hA, r218, o219⟩ := Row.made (w := w215) KRef (e := 59) ([(⟨0, 2⟩ : RM), (⟨1, 2⟩ : RM)] : List RM) (by simp only [List.length_cons, List.length_nil]; unfold maxLen; omega)
     refine Pl.MDT Z rfl rfl (r_bs (z := .agg #[.int .i64 (0), .int .i64 (0)]) (size := 2) (vs := [(0, .agg #[.int .i64 (0), .int .i64 (2)]), (1, .agg #[.int .i64 (1), .int .i64 (2)])]) (cs := List.flatMap KRef.cells [(⟨0, 2⟩ : RM), (⟨1, 2⟩ : RM)]) Tryz.underlying35 Tryz.sizeOf59 Tryz.zeroValue59 rfl (Fr.evalps Z rfl) (by kernel_rfl)) rfl rfl ?_ ?_
     · rw [← hw]; exact ⟨fun _ => (Only.trans' (Only.trans' (Only.trans' (Only.trans' (Only.trans' (Only.trans' (Only.trans' (Only.trans' (Only.trans' o128 o136) o143) o154) o167) o186) o194) o201) o212) o219), (Only.trans (Only.trans (Only.trans (Only.trans (Only.trans (Only.trans (Only.trans (Only.trans (Only.trans (Only.trans (Only.refl NoF w104) o128 (fun _ h => h.elim)) o136 (fun _ h => h.elim)) o143 (fun _ h => h.elim)) o154 (fun _ h => h.elim)) o167 (fun _ h => h.elim)) o186 (fun _ h => h.elim)) o194 (fun _ h => h.elim)) o201 (fun _ h => h.elim)) o212 (fun _ h => h.elim)) o219 (fun _ h => h.elim))⟩
     rw [← hw, ← hA]; clear Z az; intro az Z
     clear hw hA
     have ok220 : ∀ zq ∈ ([(⟨0, 2⟩ : RM), (⟨1, 2⟩ : RM)] : List RM), KRef.ok zq := by intro zq hx; simp only [List.mem_cons, List.not_mem_nil, or_false] at hx; rcases hx with rfl | rfl <;> first | exact (show I64 (0) ∧ I64 (2) from ⟨by unfold I64; omega, by unfold I64; omega⟩) | exact (show I64 (1) ∧ I64 (2) from ⟨by unfold I64; omega, by unfold I64; omega⟩)
     have h221 := Row.own KRef r211 ok213
     have h222 := (SliceOf.kp h221 o219 (fun _ _ h => h) (fun _ _ _ _ h => h))
     have h223 := SliceOf.pl h222
     have h224 := Row.own KRef r218 ok220
     have h225 := SliceOf.pl h224
     refine Pl.MSGV (v := .bool (true)) Z rfl rfl gd_t rfl rfl (fun hb => rfl) Tryz.call19 (fun hb => fix_eq (congrArg Value.bool (decide_eq_true sm_5)) (rSameRefs_v_ h223 h225)) rfl (fun w' o' => ⟨fun _ => (Only.trans' (Only.trans' (Only.trans' (Only.trans' (Only.trans' (Only.trans' (Only.trans' (Only.trans' (Only.trans' (Only.trans' o128 o136) o143) o154) o167) o186) o194) o201) o212) o219) o'), (Only.trans (Only.trans (Only.trans (Only.trans (Only.trans (Only.trans (Only.trans (Only.trans (Only.trans (Only.trans (Only.trans (Only.refl NoF w104) o128 (fun _ h => h.elim)) o136 (fun _ h => h.elim)) o143 (fun _ h => h.elim)) o154 (fun _ h => h.elim)) o167 (fun _ h => h.elim)) o186 (fun _ h => h.elim)) o194 (fun _ h => h.elim)) o201 (fun _ h => h.elim)) o212 (fun _ h => h.elim)) o219 (fun _ h => h.elim)) o' (fun _ h => h.elim))⟩) fun w226 o227 => ?_; clear Z az; intro az Z
     refine Pl.MSP (b := true) (by kernel_rfl) (fun W oW => r_pick Z rfl rfl rfl) Z rfl rfl ?_; clear Z az; intro az Z
     refine Pl.MSP (b := true) (by kernel_rfl) (fun W oW => r_as Z rfl) Z rfl rfl ?_; clear Z az; intro az Z
     refine wpPl_nil ?_
     have O228 : Only NoF w100 w226 := (Only.trans' (Only.trans' (Only.trans' (Only.trans' (Only.trans' (Only.trans' (Only.trans' (Only.trans' (Only.trans' (Only.trans' (Only.trans' o105 o128) o136) o143) o154) o167) o186) o194) o201) o212) o219) o227)
     exact ⟨Z.cut ⟨rfl, rfl, rfl, rfl, rfl, rfl, rfl, rfl, trivial⟩, O228⟩
    ·
     obtain ⟨A229, w230, hw, hA, r231, o232⟩ := Row.made (w := w200) KRef (e := 59) ([(⟨0, 2⟩ : RM), (⟨1, 2⟩ : RM)] : List RM) (by simp only [List.length_cons, List.length_nil]; unfold maxLen; omega)
     refine Pl.MDT Z rfl rfl (r_bs (z := .agg #[.int .i64 (0), .int .i64 (0)]) (size := 2) (vs := [(0, .agg #[.int .i64 (0), .int .i64 (2)]), (1, .agg #[.int .i64 (1), .int .i64 (2)])]) (cs := List.flatMap KRef.cells [(⟨0, 2⟩ : RM), (⟨1, 2⟩ : RM)]) Tryz.underlying35 Tryz.sizeOf59 Tryz.zeroValue59 rfl (Fr.evalps Z rfl) (by kernel_rfl)) rfl rfl ?_ ?_
     · rw [← hw]; exact ⟨fun _ => (Only.trans' (Only.trans' (Only.trans' (Only.trans' (Only.trans' (Only.trans' (Only.trans' (Only.trans' o128 o136) o143) o154) o167) o186) o194) o201) o232), (Only.trans (Only.trans (Only.trans (Only.trans (Only.trans (Only.trans (Only.trans (Only.trans (Only.trans (Only.refl NoF w104) o128 (fun _ h => h.elim)) o136 (fun _ h => h.elim)) o143 (fun _ h => h.elim)) o154 (fun _ h => h.elim)) o167 (fun _ h => h.elim)) o186 (fun _ h => h.elim)) o194 (fun _ h => h.elim)) o201 (fun _ h => h.elim)) o232 (fun _ h => h.elim))⟩
     rw [← hw, ← hA]; clear Z az; intro az Z
     clear hw hA
     have ok233 : ∀ zq ∈ ([(⟨0, 2⟩ : RM), (⟨1, 2⟩ : RM)] : List RM), KRef.ok zq := by intro zq hx; simp only [List.mem_cons, List.not_mem_nil, or_false] at hx; rcases hx with rfl | rfl <;> first | exact (show I64 (0) ∧ I64 (2) from ⟨by unfold I64; omega, by unfold I64; omega⟩) | exact (show I64 (1) ∧ I64 (2) from ⟨by unfold I64; omega, by unfold I64; omega⟩)
     have O235 : Only NoF w w230 := (Only.trans' (Only.trans' (Only.trans' (Only.trans' O172 o186) o194) o201) o232)
     have G234 := Gr.k hG O235
     have O236 : Only NoF w104 w230 := (Only.trans' (Only.trans' O196 o201) o232)
     have h237 := (SliceOf.kp h118 O236 (fun _ _ h => h) (fun _ _ _ _ h => h))
     have h238 := SliceOf.pl h237
     have r239 := (ow_k (ow_k (ow_k (ow_k r176 o186) o194) o201) o232)
     have nt240 : NtV w230 (.slice A76 (List.length ([(mD A51), mB, mA, mC, mA] : List NM)) 5) [(mD A51), mB, mA, mC, mA] := ⟨SliceOf.pl (Row.own KN0 r239 (fun _ _ => trivial)), (ok_cons (okN_mk (by unfold I64; omega) h238 (by unfold maxLen; decide)) (ok_cons (okN_mk (by unfold I64; omega) (SliceOf.nil_ _ _ _) (by unfold maxLen; decide)) (ok_cons (okN_mk (by unfold I64; omega) (SliceOf.nil_ _ _ _) (by unfold maxLen; decide)) (ok_cons (okN_mk (by unfold I64; omega) (SliceOf.nil_ _ _ _) (by unfold maxLen; decide)) (ok_cons (okN_mk (by unfold I64; omega) (SliceOf.nil_ _ _ _) (by unfold maxLen; decide)) OkNs.nil)))))⟩
     have hC246 := Heads_v_ G234 nt240 (by first | omega | (simp only [List.length_cons, List.length_nil]; omega))
     refine Pl.MSCT Z rfl rfl rfl rfl rfl Tryz.call20 (hC246) rfl ?_
     rintro e w247 ⟨A241, c242, rfl, r243, ok245, o244⟩; refine ⟨_, rfl, ⟨fun _ => (Only.trans' (Only.trans' (Only.trans' (Only.trans' (Only.trans' (Only.trans' (Only.trans' (Only.trans' (Only.trans' o128 o136) o143) o154) o167) o186) o194) o201) o232) o244), (Only.trans (Only.trans (Only.trans (Only.trans (Only.trans (Only.trans (Only.trans (Only.trans (Only.trans (Only.trans (Only.refl NoF w104) o128 (fun _ h => h.elim)) o136 (fun _ h => h.elim)) o143 (fun _ h => h.elim)) o154 (fun _ h => h.elim)) o167 (fun _ h => h.elim)) o186 (fun _ h => h.elim)) o194 (fun _ h => h.elim)) o201 (fun _ h => h.elim)) o232 (fun _ h => h.elim)) o244 (fun _ h => h.elim))⟩, ?_⟩
     clear Z az; intro az Z
     have h248 := Row.own KRef r243 ok245
     have h249 := SliceOf.pl h248
     have h250 := Row.own KRef r231 ok233
     have h251 := (SliceOf.kp h250 o244 (fun _ _ h => h) (fun _ _ _ _ h => h))
     have h252 := SliceOf.pl h251
     refine Pl.MSGV (v := .bool (true)) Z rfl rfl gd_t rfl rfl (fun hb => rfl) Tryz.call19 (fun hb => fix_eq (congrArg Value.bool (decide_eq_true sm_5)) (rSameRefs_v_ h249 h252)) rfl (fun w' o' => ⟨fun _ => (Only.trans' (Only.trans' (Only.trans' (Only.trans' (Only.trans' (Only.trans' (Only.trans' (Only.trans' (Only.trans' (Only.trans' o128 o136) o143) o154) o167) o186) o194) o201) o232) o244) o'), (Only.trans (Only.trans (Only.trans (Only.trans (Only.trans (Only.trans (Only.trans (Only.trans (Only.trans (Only.trans (Only.trans (Only.refl NoF w104) o128 (fun _ h => h.elim)) o136 (fun _ h => h.elim)) o143 (fun _ h => h.elim)) o154 (fun _ h => h.elim)) o167 (fun _ h => h.elim)) o186 (fun _ h => h.elim)) o194 (fun _ h => h.elim)) o201 (fun _ h => h.elim)) o232 (fun _ h => h.elim)) o244 (fun _ h => h.elim)) o' (fun _ h => h.elim))⟩) fun w253 o254 => ?_; clear Z az; intro az Z
     refine Pl.MSP (b := true) (by kernel_rfl) (fun W oW => r_pick Z rfl rfl rfl) Z rfl rfl ?_; clear Z az; intro az Z
     refine Pl.MSP (b := true) (by kernel_rfl) (fun W oW => r_as Z rfl) Z rfl rfl ?_; clear Z az; intro az Z
     refine wpPl_nil ?_
     have O255 : Only NoF w100 w253 := (Only.trans' (Only.trans' (Only.trans' (Only.trans' (Only.trans' (Only.trans' (Only.trans' (Only.trans' (Only.trans' (Only.trans' (Only.trans' o105 o128) o136) o143) o154) o167) o186) o194) o201) o232) o244) o254)
     exact ⟨Z.cut ⟨rfl, rfl, rfl, rfl, rfl, rfl, rfl, rfl, trivial⟩, O255⟩
   ·
    obtain ⟨A256, w257, hw, hA, r258, o259⟩ := Row.made (w := w170) KN0 (e := 43) ([mA, mB, mC, (mD A51)] : List NM) (by simp only [List.length_cons, List.length_nil]; unfold maxLen; omega)
    refine Pl.MDT Z rfl rfl (r_bs (z := .agg #[.int .i64 (0), .int .i64 (0), .int .i64 (0), .slice none (0) 0, strV ([])]) (size := 5) (vs := [(0, .agg #[.int .i64 (0), .int .i64 (0), .int .i64 (5), .slice none (0) 0, strV ([])]), (1, .agg #[.int .i64 (0), .int .i64 (1), .int .i64 (5), .slice none (0) 0, strV ([])]), (2, .agg #[.int .i64 (1), .int .i64 (0), .int .i64 (4), .slice none (0) 0, strV ([])]), (3, .agg #[.int .i64 (1), .int .i64 (1), .int .i64 (4), .slice A51 (1) 1, strV ([])])]) (cs := List.flatMap KN0.cells [mA, mB, mC, (mD A51)]) Tryz.underlying22 Tryz.sizeOf43 Tryz.zeroValue43 rfl (Fr.evalps Z rfl) (by kernel_rfl)) rfl rfl ?_ ?_
    · rw [← hw]; exact ⟨fun _ => (Only.trans' (Only.trans' (Only.trans' (Only.trans' (Only.trans' o128 o136) o143) o154) o167) o259), (Only.trans (Only.trans (Only.trans (Only.trans (Only.trans (Only.trans (Only.refl NoF w104) o128 (fun _ h => h.elim)) o136 (fun _ h => h.elim)) o143 (fun _ h => h.elim)) o154 (fun _ h => h.elim)) o167 (fun _ h => h.elim)) o259 (fun _ h => h.elim))⟩
    rw [← hw, ← hA]; clear Z az; intro az Z
    clear hw hA
    have ok260 : ∀ zq ∈ ([mA, mB, mC, (mD A51)] : List NM), KN0.ok zq := by intro zq hx; simp only [List.mem_cons, List.not_mem_nil, or_false] at hx; rcases hx with rfl | rfl | rfl | rfl <;> first | exact trivial | exact trivial | exact trivial | exact trivial
    have O262 : Only NoF w w257 := (Only.trans' (Only.trans' O158 o167) o259)
    have G261 := Gr.k hG O262
    have O263 : Only NoF w104 w257 := (Only.trans' (Only.trans' O159 o167) o259)
    have h264 := (SliceOf.kp h118 O263 (fun _ _ h => h) (fun _ _ _ _ h => h))
    have h265 := SliceOf.pl h264
    have r266 := (ow_k (ow_k r162 o167) o259)
    have nt267 : NtV w257 (.slice A76 (List.length ([(mD A51), mB, mA, mC, mA] : List NM)) 5) [(mD A51), mB, mA, mC, mA] := ⟨SliceOf.pl (Row.own KN0 r266 (fun _ _ => trivial)), (ok_cons (okN_mk (by unfold I64; omega) h265 (by unfold maxLen; decide)) (ok_cons (okN_mk (by unfold I64; omega) (SliceOf.nil_ _ _ _) (by unfold maxLen; decide)) (ok_cons (okN_mk (by unfold I64; omega) (SliceOf.nil_ _ _ _) (by unfold maxLen; decide)) (ok_cons (okN_mk (by unfold I64; omega) (SliceOf.nil_ _ _ _) (by unfold maxLen; decide)) (ok_cons (okN_mk (by unfold I64; omega) (SliceOf.nil_ _ _ _) (by unfold maxLen; decide)) OkNs.nil)))))⟩
    have r268 := (ow_k (ow_k (ow_k (ow_k (ow_k (ow_k (ow_k (ow_k (ow_k (ow_k r87 o92) o98) o102) o105) o128) o136) o143) o154) o167) o259)
    have nt269 : NtV w257 (.slice A85 (List.length ([mB, mC, (mD A51)] : List NM)) 3) [mB, mC, (mD A51)] := ⟨SliceOf.pl (Row.own KN0 r268 (fun _ _ => trivial)), (ok_cons (okN_mk (by unfold I64; omega) (SliceOf.nil_ _ _ _) (by unfold maxLen; decide)) (ok_cons (okN_mk (by unfold I64; omega) (SliceOf.nil_ _ _ _) (by unfold maxLen; decide)) (ok_cons (okN_mk (by unfold I64; omega) h265 (by unfold maxLen; decide)) OkNs.nil)))⟩
    have hC277 := Join_v_ G261 nt267 nt269 (by first | omega | (simp only [List.length_cons, List.length_nil]; omega))
    refine Pl.MSCT Z rfl rfl rfl rfl rfl Tryz.call10 (hC277) rfl ?_
    rintro e w278 ⟨A270, c271, L272, rfl, hL273, hS274, hN275, o276⟩; refine ⟨_, rfl, ⟨fun _ => (Only.trans' (Only.trans' (Only.trans' (Only.trans' (Only.trans' (Only.trans' o128 o136) o143) o154) o167) o259) o276), (Only.trans (Only.trans (Only.trans (Only.trans (Only.trans (Only.trans (Only.trans (Only.refl NoF w104) o128 (fun _ h => h.elim)) o136 (fun _ h => h.elim)) o143 (fun _ h => h.elim)) o154 (fun _ h => h.elim)) o167 (fun _ h => h.elim)) o259 (fun _ h => h.elim)) o276 (fun _ h => h.elim))⟩, ?_⟩
    clear Z az; intro az Z
    have nt279 : NtV w278 (.slice A270 (L272.length) c271) L272 := ⟨SliceOf.pl hS274, OkNs.pl hN275⟩
    have hm280 : L272.length ≤ 1000000 := (by have h0 := congrArg List.length hL273; rw [List.length_map] at h0; rw [h0]; first | exact Nat.le_trans (joinN_le _) (by simp only [List.length_append, List.length_cons, List.length_nil]; omega))
    have O281 : Only NoF w104 w278 := (Only.trans' O263 o276)
    have h282 := (SliceOf.kp h118 O281 (fun _ _ h => h) (fun _ _ _ _ h => h))
    have h283 := SliceOf.pl h282
    have r284 := (ow_k r258 o276)
    have nt285 : NtV w278 (.slice A256 (List.length ([mA, mB, mC, (mD A51)] : List NM)) 4) [mA, mB, mC, (mD A51)] := ⟨SliceOf.pl (Row.own KN0 r284 (fun _ _ => trivial)), (ok_cons (okN_mk (by unfold I64; omega) (SliceOf.nil_ _ _ _) (by unfold maxLen; decide)) (ok_cons (okN_mk (by unfold I64; omega) (SliceOf.nil_ _ _ _) (by unfold maxLen; decide)) (ok_cons (okN_mk (by unfold I64; omega) (SliceOf.nil_ _ _ _) (by unfold maxLen; decide)) (ok_cons (okN_mk (by unfold I64; omega) h283 (by unfold maxLen; decide)) OkNs.nil))))⟩
    refine Pl.MSGV (v := .bool (true)) Z rfl rfl gd_t rfl rfl (fun hb => rfl) Tryz.call9 (fun hb => fix_eq (congrArg Value.bool (decide_eq_true (hL273.trans sm_4))) (rSameChain_v (NtV.notes nt279) (NtV.notes nt285))) rfl (fun w' o' => ⟨fun _ => (Only.trans' (Only.trans' (Only.trans' (Only.trans' (Only.trans' (Only.trans' (Only.trans' o128 o136) o143) o154) o167) o259) o276) o'), (Only.trans (Only.trans (Only.trans (Only.trans (Only.trans (Only.trans (Only.trans (Only.trans (Only.refl NoF w104) o128 (fun _ h => h.elim)) o136 (fun _ h => h.elim)) o143 (fun _ h => h.elim)) o154 (fun _ h => h.elim)) o167 (fun _ h => h.elim)) o259 (fun _ h => h.elim)) o276 (fun _ h => h.elim)) o' (fun _ h => h.elim))⟩) fun w286 o287 => ?_; clear Z az; intro az Z
    refine Pl.MSP (b := true) (by kernel_rfl) (fun W oW => r_pick Z rfl rfl rfl) Z rfl rfl ?_; clear Z az; intro az Z
    refine Pl.MSP (b := true) (by kernel_rfl) (fun W oW => r_mv Z rfl) Z rfl rfl ?_; clear Z az; intro az Z
    refine Pl.MSPT (b := true) (by kernel_rfl) Z rfl rfl (fun W oW => r_mv Z rfl) rfl rfl ?_; clear Z az; intro az Z
    refine Pl.MSPT (b := true) (by kernel_rfl) Z rfl rfl (fun W oW => r_bd (v := .agg #[.int .i64 (0), .int .i64 (2)]) (build_Ref2 _ _) Z rfl) rfl rfl ?_; clear Z az; intro az Z
    refine Pl.MSPT (b := true) (by kernel_rfl) Z rfl rfl (fun W oW => r_bd (v := .agg #[.int .i64 (1), .int .i64 (2)]) (build_Ref2 _ _) Z rfl) rfl rfl ?_; clear Z az; intro az Z
    refine wpPl_fork ?_ ?_
    ·
     have O289 : Only NoF w w286 := (Only.trans' (Only.trans' O262 o276) o287)
     have G288 := Gr.k hG O289
     have O290 : Only NoF w104 w286 := (Only.trans' O281 o287)
     have h291 := (SliceOf.kp h118 O290 (fun _ _ h => h) (fun _ _ _ _ h => h))
     have h292 := SliceOf.pl h291
     have r293 := (ow_k (ow_k r266 o276) o287)
     have nt294 : NtV w286 (.slice A76 (List.length ([(mD A51), mB, mA, mC, mA] : List NM)) 5) [(mD A51), mB, mA, mC, mA] := ⟨SliceOf.pl (Row.own KN0 r293 (fun _ _ => trivial)), (ok_cons (okN_mk (by unfold I64; omega) h292 (by unfold maxLen; decide)) (ok_cons (okN_mk (by unfold I64; omega) (SliceOf.nil_ _ _ _) (by unfold maxLen; decide)) (ok_cons (okN_mk (by unfold I64; omega) (SliceOf.nil_ _ _ _) (by unfold maxLen; decide)) (ok_cons (okN_mk (by unfold I64; omega) (SliceOf.nil_ _ _ _) (by unfold maxLen; decide)) (ok_cons (okN_mk (by unfold I64; omega) (SliceOf.nil_ _ _ _) (by unfold maxLen; decide)) OkNs.nil)))))⟩
     have hC300 := Heads_v_ G288 nt294 (by first | omega | (simp only [List.length_cons, List.length_nil]; omega))
     refine Pl.MSCT Z rfl rfl rfl rfl rfl Tryz.call20 (hC300) rfl ?_
     rintro e w301 ⟨A295, c296, rfl, r297, ok299, o298⟩; refine ⟨_, rfl, ⟨fun _ => (Only.trans' (Only.trans' (Only.trans' (Only.trans' (Only.trans' (Only.trans' (Only.trans' (Only.trans' o128 o136) o143) o154) o167) o259) o276) o287) o298), (Only.trans (Only.trans (Only.trans (Only.trans (Only.trans (Only.trans (Only.trans (Only.trans (Only.trans (Only.refl NoF w104) o128 (fun _ h => h.elim)) o136 (fun _ h => h.elim)) o143 (fun _ h => h.elim)) o154 (fun _ h => h.elim)) o167 (fun _ h => h.elim)) o259 (fun _ h => h.elim)) o276 (fun _ h => h.elim)) o287 (fun _ h => h.elim)) o298 (fun _ h => h.elim))⟩, ?_⟩
     clear Z az; intro az Z
     obtain ⟨A302, w303, hw, hA, r304, o305⟩ := Row.made (w := w301) KRef (e := 59) ([(⟨0, 2⟩ : RM), (⟨1, 2⟩ : RM)] : List RM) (by simp only [List.length_cons, List.length_nil]; unfold maxLen; omega)
     refine Pl.MDT Z rfl rfl (r_bs (z := .agg #[.int .i64 (0), .int .i64 (0)]) (size := 2) (vs := [(0, .agg #[.int .i64 (0), .int .i64 (2)]), (1, .agg #[.int .i64 (1), .int .i64 (2)])]) (cs := List.flatMap KRef.cells [(⟨0, 2⟩ : RM), (⟨1, 2⟩ : RM)]) Tryz.underlying35 Tryz.sizeOf59 Tryz.zeroValue59 rfl (Fr.evalps Z rfl) (by kernel_rfl)) rfl rfl ?_ ?_
     · rw [← hw]; exact ⟨fun _ => (Only.trans' (Only.trans' (Only.trans' (Only.trans' (Only.trans' (Only.trans' (Only.trans' (Only.trans' (Only.trans' o128 o136) o143) o154) o167) o259) o276) o287) o298) o305), (Only.trans (Only.trans (Only.trans (Only.trans (Only.trans (Only.trans (Only.trans (Only.trans (Only.trans (Only.trans (Only.refl NoF w104) o128 (fun _ h => h.elim)) o136 (fun _ h => h.elim)) o143 (fun _ h => h.elim)) o154 (fun _ h => h.elim)) o167 (fun _ h => h.elim)) o259 (fun _ h => h.elim)) o276 (fun _ h => h.elim)) o287 (fun _ h => h.elim)) o298 (fun _ h => h.elim)) o305 (fun _ h => h.elim))⟩
     rw [← hw, ← hA]; clear Z az; intro az Z
     clear hw hA
     have ok306 : ∀ zq ∈ ([(⟨0, 2⟩ : RM), (⟨1, 2⟩ : RM)] : List RM), KRef.ok zq := by intro zq hx; simp only [List.mem_cons, List.not_mem_nil, or_false] at hx; rcases hx with rfl | rfl <;> first | exact (show I64 (0) ∧ I64 (2) from ⟨by unfold I64; omega, by unfold I64; omega⟩) | exact (show I64 (1) ∧ I64 (2) from ⟨by unfold I64; omega, by unfold I64; omega⟩)
     have h307 := Row.own KRef r297 ok299
     have h308 := (SliceOf.kp h307 o305 (fun _ _ h => h) (fun _ _ _ _ h => h))
     have h309 := SliceOf.pl h308
     have h310 := Row.own KRef r304 ok306
     have h311 := SliceOf.pl h310
     refine Pl.MSGV (v := .bool (true)) Z rfl rfl gd_t rfl rfl (fun hb => rfl) Tryz.call19 (fun hb => fix_eq (congrArg Value.bool (decide_eq_true sm_5)) (rSameRefs_v_ h309 h311)) rfl (fun w' o' => ⟨fun _ => (Only.trans' (Only.trans' (Only.trans' (Only.trans' (Only.trans' (Only.trans' (Only.trans' (Only.trans' (Only.trans' (Only.trans' o128 o136) o143) o154) o167) o259) o276) o287) o298) o305) o'), (Only.trans (Only.trans (Only.trans (Only.trans (Only.trans (Only.trans (Only.trans (Only.trans (Only.trans (Only.trans (Only.trans (Only.refl NoF w104) o128 (fun _ h => h.elim)) o136 (fun _ h => h.elim)) o143 (fun _ h => h.elim)) o154 (fun _ h => h.elim)) o167 (fun _ h => h.elim)) o259 (fun _ h => h.elim)) o276 (fun _ h => h.elim)) o287 (fun _ h => h.elim)) o298 (fun _ h => h.elim)) o305 (fun _ h => h.elim)) o' (fun _ h => h.elim))⟩) fun w312 o313 => ?_; clear Z az; intro az Z
     refine Pl.MSP (b := true) (by kernel_rfl) (fun W oW => r_pick Z rfl rfl rfl) Z rfl rfl ?_; clear Z az; intro az Z
     refine Pl.MSP (b := true) (by kernel_rfl) (fun W oW => r_as Z rfl) Z rfl rfl ?_; clear Z az; intro az Z
     refine wpPl_nil ?_
     have O314 : Only NoF w100 w312 := (Only.trans' (Only.trans' (Only.trans' (Only.trans' (Only.trans' (Only.trans' (Only.trans' (Only.trans' (Only.trans' (Only.trans' (Only.trans' o105 o128) o136) o143) o154) o167) o259) o276) o287) o298) o305) o313)
     exact ⟨Z.cut ⟨rfl, rfl, rfl, rfl, rfl, rfl, rfl, rfl, trivial⟩, O314⟩
    ·
     obtain ⟨A315, w316, hw, hA, r317, o318⟩ := Row.made (w := w286) KRef (e := 59) ([(⟨0, 2⟩ : RM), (⟨1, 2⟩ : RM)] : List RM) (by simp only [List.length_cons, List.length_nil]; unfold maxLen; omega)
     refine Pl.MDT Z rfl rfl (r_bs (z := .agg #[.int .i64 (0), .int .i64 (0)]) (size := 2) (vs := [(0, .agg #[.int .i64 (0), .int .i64 (2)]), (1, .agg #[.int .i64 (1), .int .i64 (2)])]) (cs := List.flatMap KRef.cells [(⟨0, 2⟩ : RM), (⟨1, 2⟩ : RM)]) Tryz.underlying35 Tryz.sizeOf59 Tryz.zeroValue59 rfl (Fr.evalps Z rfl) (by kernel_rfl)) rfl rfl ?_ ?_
     · rw [← hw]; exact ⟨fun _ => (Only.trans' (Only.trans' (Only.trans' (Only.trans' (Only.trans' (Only.trans' (Only.trans' (Only.trans' o128 o136) o143) o154) o167) o259) o276) o287) o318), (Only.trans (Only.trans (Only.trans (Only.trans (Only.trans (Only.trans (Only.trans (Only.trans (Only.trans (Only.refl NoF w104) o128 (fun _ h => h.elim)) o136 (fun _ h => h.elim)) o143 (fun _ h => h.elim)) o154 (fun _ h => h.elim)) o167 (fun _ h => h.elim)) o259 (fun _ h => h.elim)) o276 (fun _ h => h.elim)) o287 (fun _ h => h.elim)) o318 (fun _ h => h.elim))⟩
     rw [← hw, ← hA]; clear Z az; intro az Z
     clear hw hA
     have ok319 : ∀ zq ∈ ([(⟨0, 2⟩ : RM), (⟨1, 2⟩ : RM)] : List RM), KRef.ok zq := by intro zq hx; simp only [List.mem_cons, List.not_mem_nil, or_false] at hx; rcases hx with rfl | rfl <;> first | exact (show I64 (0) ∧ I64 (2) from ⟨by unfold I64; omega, by unfold I64; omega⟩) | exact (show I64 (1) ∧ I64 (2) from ⟨by unfold I64; omega, by unfold I64; omega⟩)
     have O321 : Only NoF w w316 := (Only.trans' (Only.trans' (Only.trans' O262 o276) o287) o318)
     have G320 := Gr.k hG O321
     have O322 : Only NoF w104 w316 := (Only.trans' (Only.trans' O281 o287) o318)
     have h323 := (SliceOf.kp h118 O322 (fun _ _ h => h) (fun _ _ _ _ h => h))
     have h324 := SliceOf.pl h323
     have r325 := (ow_k (ow_k (ow_k r266 o276) o287) o318)
     have nt326 : NtV w316 (.slice A76 (List.length ([(mD A51), mB, mA, mC, mA] : List NM)) 5) [(mD A51), mB, mA, mC, mA] := ⟨SliceOf.pl (Row.own KN0 r325 (fun _ _ => trivial)), (ok_cons (okN_mk (by unfold I64; omega) h324 (by unfold maxLen; decide)) (ok_cons (okN_mk (by unfold I64; omega) (SliceOf.nil_ _ _ _) (by unfold maxLen; decide)) (ok_cons (okN_mk (by unfold I64; omega) (SliceOf.nil_ _ _ _) (by unfold maxLen; decide)) (ok_cons (okN_mk (by unfold I64; omega) (SliceOf.nil_ _ _ _) (by unfold maxLen; decide)) (ok_cons (okN_mk (by unfold I64; omega) (SliceOf.nil_ _ _ _) (by unfold maxLen; decide)) OkNs.nil)))))⟩
     have hC332 := Heads_v_ G320 nt326 (by first | omega | (simp only [List.length_cons, List.length_nil]; omega))
     refine Pl.MSCT Z rfl rfl rfl rfl rfl Tryz.call20 (hC332) rfl ?_
     rintro e w333 ⟨A327, c328, rfl, r329, ok331, o330⟩; refine ⟨_, rfl, ⟨fun _ => (Only.trans' (Only.trans' (Only.trans' (Only.trans' (Only.trans' (Only.trans' (Only.trans' (Only.trans' (Only.trans' o128 o136) o143) o154) o167) o259) o276) o287) o318) o330), (Only.trans (Only.trans (Only.trans (Only.trans (Only.trans (Only.trans (Only.trans (Only.trans (Only.trans (Only.trans (Only.refl NoF w104) o128 (fun _ h => h.elim)) o136 (fun _ h => h.elim)) o143 (fun _ h => h.elim)) o154 (fun _ h => h.elim)) o167 (fun _ h => h.elim)) o259 (fun _ h => h.elim)) o276 (fun _ h => h.elim)) o287 (fun _ h => h.elim)) o318 (fun _ h => h.elim)) o330 (fun _ h => h.elim))⟩, ?_⟩
     clear Z az; intro az Z
     have h334 := Row.own KRef r329 ok331
     have h335 := SliceOf.pl h334
     have h336 := Row.own KRef r317 ok319
     have h337 := (SliceOf.kp h336 o330 (fun _ _ h => h) (fun _ _ _ _ h => h))
     have h338 := SliceOf.pl h337
     refine Pl.MSGV (v := .bool (true)) Z rfl rfl gd_t rfl rfl (fun hb => rfl) Tryz.call19 (fun hb => fix_eq (congrArg Value.bool (decide_eq_true sm_5)) (rSameRefs_v_ h335 h338)) rfl (fun w' o' => ⟨fun _ => (Only.trans' (Only.trans' (Only.trans' (Only.trans' (Only.trans' (Only.trans' (Only.trans' (Only.trans' (Only.trans' (Only.trans' o128 o136) o143) o154) o167) o259) o276) o287) o318) o330) o'), (Only.trans (Only.trans (Only.trans (Only.trans (Only.trans (Only.trans (Only.trans (Only.trans (Only.trans (Only.trans (Only.trans (Only.refl NoF w104) o128 (fun _ h => h.elim)) o136 (fun _ h => h.elim)) o143 (fun _ h => h.elim)) o154 (fun _ h => h.elim)) o167 (fun _ h => h.elim)) o259 (fun _ h => h.elim)) o276 (fun _ h => h.elim)) o287 (fun _ h => h.elim)) o318 (fun _ h => h.elim)) o330 (fun _ h => h.elim)) o' (fun _ h => h.elim))⟩) fun w339 o340 => ?_; clear Z az; intro az Z
     refine Pl.MSP (b := true) (by kernel_rfl) (fun W oW => r_pick Z rfl rfl rfl) Z rfl rfl ?_; clear Z az; intro az Z
     refine Pl.MSP (b := true) (by kernel_rfl) (fun W oW => r_as Z rfl) Z rfl rfl ?_; clear Z az; intro az Z
     refine wpPl_nil ?_
     have O341 : Only NoF w100 w339 := (Only.trans' (Only.trans' (Only.trans' (Only.trans' (Only.trans' (Only.trans' (Only.trans' (Only.trans' (Only.trans' (Only.trans' (Only.trans' o105 o128) o136) o143) o154) o167) o259) o276) o287) o318) o330) o340)
     exact ⟨Z.cut ⟨rfl, rfl, rfl, rfl, rfl, rfl, rfl, rfl, trivial⟩, O341⟩
  ·
   obtain ⟨A342, w343, hw, hA, r344, o345⟩ := Row.made (w := w104) KN0 (e := 43) ([mC, mA, (mD A51), mB] : List NM) (by simp only [List.length_cons, List.length_nil]; unfold maxLen; omega)
   refine Pl.MD (r_bs (z := .agg #[.int .i64 (0), .int .i64 (0), .int .i64 (0), .slice none (0) 0, strV ([])]) (size := 5) (vs := [(0, .agg #[.int .i64 (1), .int .i64 (0), .int .i64 (4), .slice none (0) 0, strV ([])]), (1, .agg #[.int .i64 (0), .int .i64 (0), .int .i64 (5), .slice none (0) 0, strV ([])]), (2, .agg #[.int .i64 (1), .int .i64 (1), .int .i64 (4), .slice A51 (1) 1, strV ([])]), (3, .agg #[.int .i64 (0), .int .i64 (1), .int .i64 (5), .slice none (0) 0, strV ([])])]) (cs := List.flatMap KN0.cells [mC, mA, (mD A51), mB]) Tryz.underlying22 Tryz.sizeOf43 Tryz.zeroValue43 rfl (Fr.evalps Z rfl) (by kernel_rfl)) Z rfl rfl ?_ ?_
   · rw [← hw]; exact ⟨fun _ => o345, (Only.trans (Only.refl NoF w104) o345 (fun _ h => h.elim))⟩
   rw [← hw, ← hA]; clear Z az; intro az Z
   clear hw hA
   have ok346 : ∀ zq ∈ ([mC, mA, (mD A51), mB] : List NM), KN0.ok zq := by intro zq hx; simp only [List.mem_cons, List.not_mem_nil, or_false] at hx; rcases hx with rfl | rfl | rfl | rfl <;> first | exact trivial | exact trivial | exact trivial | exact trivial
   have O348 : Only NoF w w15 := (Only.trans' (o_sg (Only.trans' o4 o7) s12 (size_only o4) (oneF_ge hg9)) o16)
   have O349 : Only NoF w w27 := (Only.trans' (o_sg (Only.trans' O348 o19) s24 (size_only O348) (oneF_ge hg21)) o28)
   have O350 : Only NoF w w39 := (Only.trans' (o_sg (Only.trans' O349 o31) s36 (size_only O349) (oneF_ge hg33)) o40)
   have O351 : Only NoF w w343 := (Only.trans' (Only.trans' (Only.trans' (Only.trans' (Only.trans' (Only.trans' (Only.trans' (o_sg (Only.trans' (o_sg (Only.trans' (Only.trans' (o_sg (Only.trans' (Only.trans' (o_sg (Only.trans' (Only.trans' (o_sg (Only.trans' o4 o7) s12 (size_only o4) (oneF_ge hg9)) o16) o19) s24 (size_only O348) (oneF_ge hg21)) o28) o31) s36 (size_only O349) (oneF_ge hg33)) o40) o43) s48 (size_only O350) (oneF_ge hg45)) o54) s58 (size_only O350) (oneF_ge hg45)) o79) o88) o92) o98) o102) o105) o345)
   have G347 := Gr.k hG O351
   have h352 := Row.own KRef r53 ok55
   have O353 := (Only.trans (Only.refl (fun _ => True) w42) s48 (fun _ _ => .inl trivial))
   have O354 : Only NoF w57 w343 := (Only.trans' (Only.trans' (Only.trans' (Only.trans' (Only.trans' (Only.trans' o79 o88) o92) o98) o102) o105) o345)
   have h355 := (SliceOf.kp (SliceOf.kp h352 s58 (ge_F (oneF_lt hl46) (size_only O353)) (fun _ _ _ _ h => h)) O354 (fun _ _ h => h) (fun _ _ _ _ h => h))
   have h356 := SliceOf.pl h355
   have r357 := (ow_k (ow_k (ow_k (ow_k (ow_k (ow_k r78 o88) o92) o98) o102) o105) o345)
   have nt358 : NtV w343 (.slice A76 (List.length ([(mD A51), mB, mA, mC, mA] : List NM)) 5) [(mD A51), mB, mA, mC, mA] := ⟨SliceOf.pl (Row.own KN0 r357 (fun _ _ => trivial)), (ok_cons (okN_mk (by unfold I64; omega) h356 (by unfold maxLen; decide)) (ok_cons (okN_mk (by unfold I64; omega) (SliceOf.nil_ _ _ _) (by unfold maxLen; decide)) (ok_cons (okN_mk (by unfold I64; omega) (SliceOf.nil_ _ _ _) (by unfold maxLen; decide)) (ok_cons (okN_mk (by unfold I64; omega) (SliceOf.nil_ _ _ _) (by unfold maxLen; decide)) (ok_cons (okN_mk (by unfold I64; omega) (SliceOf.nil_ _ _ _) (by unfold maxLen; decide)) OkNs.nil)))))⟩
   have hC366 := Order_v_ G347 nt358 (by first | omega | (simp only [List.length_cons, List.length_nil]; omega))
   refine Pl.MSC Z rfl rfl rfl Tryz.call17 (hC366) rfl ?_
   rintro e w367 ⟨A359, c360, L361, rfl, hL362, hS363, hN364, o365⟩; refine ⟨_, rfl, ⟨fun _ => (Only.trans' o345 o365), (Only.trans (Only.trans (Only.refl NoF w104) o345 (fun _ h => h.elim)) o365 (fun _ h => h.elim))⟩, ?_⟩
   clear Z az; intro az Z
   have nt368 : NtV w367 (.slice A359 (L361.length) c360) L361 := ⟨SliceOf.pl hS363, OkNs.pl hN364⟩
   have hm369 : L361.length ≤ 1000000 := (ord_lim hL362 (by first | omega | (simp only [List.length_cons, List.length_nil]; omega)))
   have h370 := (SliceOf.kp h355 o365 (fun _ _ h => h) (fun _ _ _ _ h => h))
   have h371 := SliceOf.pl h370
   have r372 := (ow_k r344 o365)
   have nt373 : NtV w367 (.slice A342 (List.length ([mC, mA, (mD A51), mB] : List NM)) 4) [mC, mA, (mD A51), mB] := ⟨SliceOf.pl (Row.own KN0 r372 (fun _ _ => trivial)), (ok_cons (okN_mk (by unfold I64; omega) (SliceOf.nil_ _ _ _) (by unfold maxLen; decide)) (ok_cons (okN_mk (by unfold I64; omega) (SliceOf.nil_ _ _ _) (by unfold maxLen; decide)) (ok_cons (okN_mk (by unfold I64; omega) h371 (by unfold maxLen; decide)) (ok_cons (okN_mk (by unfold I64; omega) (SliceOf.nil_ _ _ _) (by unfold maxLen; decide)) OkNs.nil))))⟩
   refine Pl.MSV (v := .bool (true)) Z rfl rfl rfl Tryz.call9 (fix_eq (congrArg Value.bool (decide_eq_true (hL362.trans sm_1))) (rSameChain_v (NtV.notes nt368) (NtV.notes nt373))) rfl (fun w' o' => ⟨fun _ => (Only.trans' (Only.trans' o345 o365) o'), (Only.trans (Only.trans (Only.trans (Only.refl NoF w104) o345 (fun _ h => h.elim)) o365 (fun _ h => h.elim)) o' (fun _ h => h.elim))⟩) fun w374 o375 => ?_; clear Z az; intro az Z
   refine Pl.MSP (b := true) (by kernel_rfl) (fun W oW => r_mv Z rfl) Z rfl rfl ?_; clear Z az; intro az Z
   refine Pl.MSPT (b := true) (by kernel_rfl) Z rfl rfl (fun W oW => r_mv Z rfl) rfl rfl ?_; clear Z az; intro az Z
   have O377 : Only NoF w w374 := (Only.trans' (Only.trans' O351 o365) o375)
   have G376 := Gr.k hG O377
   have O378 : Only NoF w343 w374 := (Only.trans' o365 o375)
   have h379 := (SliceOf.kp h355 O378 (fun _ _ h => h) (fun _ _ _ _ h => h))
   have h380 := SliceOf.pl h379
   have r381 := (ow_k (ow_k r357 o365) o375)
   have nt382 : NtV w374 (.slice A76 (List.length ([(mD A51), mB, mA, mC, mA] : List NM)) 5) [(mD A51), mB, mA, mC, mA] := ⟨SliceOf.pl (Row.own KN0 r381 (fun _ _ => trivial)), (ok_cons (okN_mk (by unfold I64; omega) h380 (by unfold maxLen; decide)) (ok_cons (okN_mk (by unfold I64; omega) (SliceOf.nil_ _ _ _) (by unfold maxLen; decide)) (ok_cons (okN_mk (by unfold I64; omega) (SliceOf.nil_ _ _ _) (by unfold maxLen; decide)) (ok_cons (okN_mk (by unfold I64; omega) (SliceOf.nil_ _ _ _) (by unfold maxLen; decide)) (ok_cons (okN_mk (by unfold I64; omega) (SliceOf.nil_ _ _ _) (by unfold maxLen; decide)) OkNs.nil)))))⟩
   have hC387 := Forks_v_ G376 nt382 (by first | omega | (simp only [List.length_cons, List.length_nil]; omega))
   refine Pl.MSCT Z rfl rfl rfl rfl rfl Tryz.call13 (hC387) rfl ?_
   rintro e w388 ⟨A383, c384, rfl, r385, o386⟩; refine ⟨_, rfl, ⟨fun _ => (Only.trans' (Only.trans' (Only.trans' o345 o365) o375) o386), (Only.trans (Only.trans (Only.trans (Only.trans (Only.refl NoF w104) o345 (fun _ h => h.elim)) o365 (fun _ h => h.elim)) o375 (fun _ h => h.elim)) o386 (fun _ h => h.elim))⟩, ?_⟩
   clear Z az; intro az Z
   refine Pl.MSPT (b := true) (by kernel_rfl) Z rfl rfl (fun W oW => r_len0 Tryz.underlying30 Z rfl (by rw [sm_2]; rfl)) rfl rfl ?_; clear Z az; intro az Z
   refine Pl.MSPT (b := true) (by kernel_rfl) Z rfl rfl (fun W oW => r_eqRI Z rfl rfl) rfl rfl ?_; clear Z az; intro az Z
   refine Pl.MSP (b := true) (by kernel_rfl) (fun W oW => r_pick Z rfl rfl rfl) Z rfl rfl ?_; clear Z az; intro az Z
   refine Pl.MSP (b := true) (by kernel_rfl) (fun W oW => r_mv Z rfl) Z rfl rfl ?_; clear Z az; intro az Z
   refine Pl.MSPT (b := true) (by kernel_rfl) Z rfl rfl (fun W oW => r_mv Z rfl) rfl rfl ?_; clear Z az; intro az Z
   have O390 : Only NoF w w388 := (Only.trans' O377 o386)
   have G389 := Gr.k hG O390
   have O391 : Only NoF w343 w388 := (Only.trans' O378 o386)
   have h392 := (SliceOf.kp h355 O391 (fun _ _ h => h) (fun _ _ _ _ h => h))
   have h393 := SliceOf.pl h392
   have r394 := (ow_k r381 o386)
   have nt395 : NtV w388 (.slice A76 (List.length ([(mD A51), mB, mA, mC, mA] : List NM)) 5) [(mD A51), mB, mA, mC, mA] := ⟨SliceOf.pl (Row.own KN0 r394 (fun _ _ => trivial)), (ok_cons (okN_mk (by unfold I64; omega) h393 (by unfold maxLen; decide)) (ok_cons (okN_mk (by unfold I64; omega) (SliceOf.nil_ _ _ _) (by unfold maxLen; decide)) (ok_cons (okN_mk (by unfold I64; omega) (SliceOf.nil_ _ _ _) (by unfold maxLen; decide)) (ok_cons (okN_mk (by unfold I64; omega) (SliceOf.nil_ _ _ _) (by unfold maxLen; decide)) (ok_cons (okN_mk (by unfold I64; omega) (SliceOf.nil_ _ _ _) (by unfold maxLen; decide)) OkNs.nil)))))⟩
   have hC401 := Missing_v_ G389 nt395 (by first | omega | (simp only [List.length_cons, List.length_nil]; omega))
   refine Pl.MSCT Z rfl rfl rfl rfl rfl Tryz.call22 (hC401) rfl ?_
   rintro e w402 ⟨A396, c397, rfl, r398, ok400, o399⟩; refine ⟨_, rfl, ⟨fun _ => (Only.trans' (Only.trans' (Only.trans' (Only.trans' o345 o365) o375) o386) o399), (Only.trans (Only.trans (Only.trans (Only.trans (Only.trans (Only.refl NoF w104) o345 (fun _ h => h.elim)) o365 (fun _ h => h.elim)) o375 (fun _ h => h.elim)) o386 (fun _ h => h.elim)) o399 (fun _ h => h.elim))⟩, ?_⟩
   clear Z az; intro az Z
   refine Pl.MSPT (b := true) (by kernel_rfl) Z rfl rfl (fun W oW => r_len0 Tryz.underlying35 Z rfl (by rw [sm_3]; rfl)) rfl rfl ?_; clear Z az; intro az Z
   refine Pl.MSPT (b := true) (by kernel_rfl) Z rfl rfl (fun W oW => r_eqRI Z rfl rfl) rfl rfl ?_; clear Z az; intro az Z
   refine Pl.MSP (b := true) (by kernel_rfl) (fun W oW => r_pick Z rfl rfl rfl) Z rfl rfl ?_; clear Z az; intro az Z
   refine Pl.MSP (b := true) (by kernel_rfl) (fun W oW => r_mv Z rfl) Z rfl rfl ?_; clear Z az; intro az Z
   refine Pl.MSPT (b := true) (by kernel_rfl) Z rfl rfl (fun W oW => r_mv Z rfl) rfl rfl ?_; clear Z az; intro az Z
   refine Pl.MSPT (b := true) (by kernel_rfl) Z rfl rfl (fun W oW => r_mv Z rfl) rfl rfl ?_; clear Z az; intro az Z
   refine Pl.MSPT (b := true) (by kernel_rfl) Z rfl rfl (fun W oW => r_ldA Tryz.isAgg43 Tryz.sizeOf43 Z rfl (Blk.ca (Blk.k B107 oW)) rfl) rfl rfl ?_; clear Z az; intro az Z
   refine Pl.MSPT (b := true) (by kernel_rfl) Z rfl rfl (fun W oW => r_ldA Tryz.isAgg43 Tryz.sizeOf43 Z rfl (Blk.ca (Blk.k B109 oW)) rfl) rfl rfl ?_; clear Z az; intro az Z
   refine Pl.MSPT (b := true) (by kernel_rfl) Z rfl rfl (fun W oW => r_ldA Tryz.isAgg43 Tryz.sizeOf43 Z rfl (Blk.ca (Blk.k B106 oW)) rfl) rfl rfl ?_; clear Z az; intro az Z
   refine Pl.MSPT (b := true) (by kernel_rfl) Z rfl rfl (fun W oW => r_ldA Tryz.isAgg43 Tryz.sizeOf43 Z rfl (Blk.ca (Blk.k B108 oW)) rfl) rfl rfl ?_; clear Z az; intro az Z
   refine wpPl_fork ?_ ?_
   ·
    have O404 : Only NoF w w402 := (Only.trans' O390 o399)
    have G403 := Gr.k hG O404
    have O405 : Only NoF w343 w402 := (Only.trans' O391 o399)
    have h406 := (SliceOf.kp h355 O405 (fun _ _ h => h) (fun _ _ _ _ h => h))
    have h407 := SliceOf.pl h406
    have r408 := (ow_k r394 o399)
    have nt409 : NtV w402 (.slice A76 (List.length ([(mD A51), mB, mA, mC, mA] : List NM)) 5) [(mD A51), mB, mA, mC, mA] := ⟨SliceOf.pl (Row.own KN0 r408 (fun _ _ => trivial)), (ok_cons (okN_mk (by unfold I64; omega) h407 (by unfold maxLen; decide)) (ok_cons (okN_mk (by unfold I64; omega) (SliceOf.nil_ _ _ _) (by unfold maxLen; decide)) (ok_cons (okN_mk (by unfold I64; omega) (SliceOf.nil_ _ _ _) (by unfold maxLen; decide)) (ok_cons (okN_mk (by unfold I64; omega) (SliceOf.nil_ _ _ _) (by unfold maxLen; decide)) (ok_cons (okN_mk (by unfold I64; omega) (SliceOf.nil_ _ _ _) (by unfold maxLen; decide)) OkNs.nil)))))⟩
    have r410 := (ow_k (ow_k (ow_k (ow_k (ow_k (ow_k (ow_k (ow_k (ow_k r87 o92) o98) o102) o105) o345) o365) o375) o386) o399)
    have nt411 : NtV w402 (.slice A85 (List.length ([mB, mC, (mD A51)] : List NM)) 3) [mB, mC, (mD A51)] := ⟨SliceOf.pl (Row.own KN0 r410 (fun _ _ => trivial)), (ok_cons (okN_mk (by unfold I64; omega) (SliceOf.nil_ _ _ _) (by unfold maxLen; decide)) (ok_cons (okN_mk (by unfold I64; omega) (SliceOf.nil_ _ _ _) (by unfold maxLen; decide)) (ok_cons (okN_mk (by unfold I64; omega) h407 (by unfold maxLen; decide)) OkNs.nil)))⟩
    have hC419 := Join_v_ G403 nt409 nt411 (by first | omega | (simp only [List.length_cons, List.length_nil]; omega))
    refine Pl.MSCT Z rfl rfl rfl rfl rfl Tryz.call10 (hC419) rfl ?_
    rintro e w420 ⟨A412, c413, L414, rfl, hL415, hS416, hN417, o418⟩; refine ⟨_, rfl, ⟨fun _ => (Only.trans' (Only.trans' (Only.trans' (Only.trans' (Only.trans' o345 o365) o375) o386) o399) o418), (Only.trans (Only.trans (Only.trans (Only.trans (Only.trans (Only.trans (Only.refl NoF w104) o345 (fun _ h => h.elim)) o365 (fun _ h => h.elim)) o375 (fun _ h => h.elim)) o386 (fun _ h => h.elim)) o399 (fun _ h => h.elim)) o418 (fun _ h => h.elim))⟩, ?_⟩
    clear Z az; intro az Z
    have nt421 : NtV w420 (.slice A412 (L414.length) c413) L414 := ⟨SliceOf.pl hS416, OkNs.pl hN417⟩
    have hm422 : L414.length ≤ 1000000 := (by have h0 := congrArg List.length hL415; rw [List.length_map] at h0; rw [h0]; first | exact Nat.le_trans (joinN_le _) (by simp only [List.length_append, List.length_cons, List.length_nil]; omega))
    obtain ⟨A423, w424, hw, hA, r425, o426⟩ := Row.made (w := w420) KN0 (e := 43) ([mA, mB, mC, (mD A51)] : List NM) (by simp only [List.length_cons, List.length_nil]; unfold maxLen; omega)
    refine Pl.MDT Z rfl rfl (r_bs (z := .agg #[.int .i64 (0), .int .i64 (0), .int .i64 (0), .slice none (0) 0, strV ([])]) (size := 5) (vs := [(0, .agg #[.int .i64 (0), .int .i64 (0), .int .i64 (5), .slice none (0) 0, strV ([])]), (1, .agg #[.int .i64 (0), .int .i64 (1), .int .i64 (5), .slice none (0) 0, strV ([])]), (2, .agg #[.int .i64 (1), .int .i64 (0), .int .i64 (4), .slice none (0) 0, strV ([])]), (3, .agg #[.int .i64 (1), .int .i64 (1), .int .i64 (4), .slice A51 (1) 1, strV ([])])]) (cs := List.flatMap KN0.cells [mA, mB, mC, (mD A51)]) Tryz.underlying22 Tryz.sizeOf43 Tryz.zeroValue43 rfl (Fr.evalps Z rfl) (by kernel_rfl)) rfl rfl ?_ ?_
    · rw [← hw]; exact ⟨fun _ => (Only.trans' (Only.trans' (Only.trans' (Only.trans' (Only.trans' (Only.trans' o345 o365) o375) o386) o399) o418) o426), (Only.trans (Only.trans (Only.trans (Only.trans (Only.trans (Only.trans (Only.trans (Only.refl NoF w104) o345 (fun _ h => h.elim)) o365 (fun _ h => h.elim)) o375 (fun _ h => h.elim)) o386 (fun _ h => h.elim)) o399 (fun _ h => h.elim)) o418 (fun _ h => h.elim)) o426 (fun _ h => h.elim))⟩
    rw [← hw, ← hA]; clear Z az; intro az Z
    clear hw hA
    have ok427 : ∀ zq ∈ ([mA, mB, mC, (mD A51)] : List NM), KN0.ok zq := by intro zq hx; simp only [List.mem_cons, List.not_mem_nil, or_false] at hx; rcases hx with rfl | rfl | rfl | rfl <;> first | exact trivial | exact trivial | exact trivial | exact trivial
    have O428 : Only NoF w343 w424 := (Only.trans' (Only.trans' O405 o418) o426)
    have h429 := (SliceOf.kp h355 O428 (fun _ _ h => h) (fun _ _ _ _ h => h))
    have h430 := SliceOf.pl h429
    have nt431 : NtV w424 (.slice A423 (List.length ([mA, mB, mC, (mD A51)] : List NM)) 4) [mA, mB, mC, (mD A51)] := ⟨SliceOf.pl (Row.own KN0 r425 (fun _ _ => trivial)), (ok_cons (okN_mk (by unfold I64; omega) (SliceOf.nil_ _ _ _) (by unfold maxLen; decide)) (ok_cons (okN_mk (by unfold I64; omega) (SliceOf.nil_ _ _ _) (by unfold maxLen; decide)) (ok_cons (okN_mk (by unfold I64; omega) (SliceOf.nil_ _ _ _) (by unfold maxLen; decide)) (ok_cons (okN_mk (by unfold I64; omega) h430 (by unfold maxLen; decide)) OkNs.nil))))⟩
    refine Pl.MSGV (v := .bool (true)) Z rfl rfl gd_t rfl rfl (fun hb => rfl) Tryz.call9 (fun hb => fix_eq (congrArg Value.bool (decide_eq_true (hL415.trans sm_4))) (rSameChain_v (NtV.notes (NtV.k nt421 o426)) (NtV.notes nt431))) rfl (fun w' o' => ⟨fun _ => (Only.trans' (Only.trans' (Only.trans' (Only.trans' (Only.trans' (Only.trans' (Only.trans' o345 o365) o375) o386) o399) o418) o426) o'), (Only.trans (Only.trans (Only.trans (Only.trans (Only.trans (Only.trans (Only.trans (Only.trans (Only.refl NoF w104) o345 (fun _ h => h.elim)) o365 (fun _ h => h.elim)) o375 (fun _ h => h.elim)) o386 (fun _ h => h.elim)) o399 (fun _ h => h.elim)) o418 (fun _ h => h.elim)) o426 (fun _ h => h.elim)) o' (fun _ h => h.elim))⟩) fun w432 o433 => ?_; clear Z az; intro az Z
    refine Pl.MSP (b := true) (by kernel_rfl) (fun W oW => r_pick Z rfl rfl rfl) Z rfl rfl ?_; clear Z az; intro az Z
    refine Pl.MSP (b := true) (by kernel_rfl) (fun W oW => r_mv Z rfl) Z rfl rfl ?_; clear Z az; intro az Z
    refine Pl.MSPT (b := true) (by kernel_rfl) Z rfl rfl (fun W oW => r_mv Z rfl) rfl rfl ?_; clear Z az; intro az Z
    refine Pl.MSPT (b := true) (by kernel_rfl) Z rfl rfl (fun W oW => r_bd (v := .agg #[.int .i64 (0), .int .i64 (2)]) (build_Ref2 _ _) Z rfl) rfl rfl ?_; clear Z az; intro az Z
    refine Pl.MSPT (b := true) (by kernel_rfl) Z rfl rfl (fun W oW => r_bd (v := .agg #[.int .i64 (1), .int .i64 (2)]) (build_Ref2 _ _) Z rfl) rfl rfl ?_; clear Z az; intro az Z
    refine wpPl_fork ?_ ?_
    ·
     have O435 : Only NoF w w432 := (Only.trans' (Only.trans' (Only.trans' O404 o418) o426) o433)
     have G434 := Gr.k hG O435
     have O436 : Only NoF w343 w432 := (Only.trans' O428 o433)
     have h437 := (SliceOf.kp h355 O436 (fun _ _ h => h) (fun _ _ _ _ h => h))
     have h438 := SliceOf.pl h437
     have r439 := (ow_k (ow_k (ow_k r408 o418) o426) o433)
     have nt440 : NtV w432 (.slice A76 (List.length ([(mD A51), mB, mA, mC, mA] : List NM)) 5) [(mD A51), mB, mA, mC, mA] := ⟨SliceOf.pl (Row.own KN0 r439 (fun _ _ => trivial)), (ok_cons (okN_mk (by unfold I64; omega) h438 (by unfold maxLen; decide)) (ok_cons (okN_mk (by unfold I64; omega) (SliceOf.nil_ _ _ _) (by unfold maxLen; decide)) (ok_cons (okN_mk (by unfold I64; omega) (SliceOf.nil_ _ _ _) (by unfold maxLen; decide)) (ok_cons (okN_mk (by unfold I64; omega) (SliceOf.nil_ _ _ _) (by unfold maxLen; decide)) (ok_cons (okN_mk (by unfold I64; omega) (SliceOf.nil_ _ _ _) (by unfold maxLen; decide)) OkNs.nil)))))⟩
     have hC446 := Heads_v_ G434 nt440 (by first | omega | (simp only [List.length_cons, List.length_nil]; omega))
     refine Pl.MSCT Z rfl rfl rfl rfl rfl Tryz.call20 (hC446) rfl ?_
     rintro e w447 ⟨A441, c442, rfl, r443, ok445, o444⟩; refine ⟨_, rfl, ⟨fun _ => (Only.trans' (Only.trans' (Only.trans' (Only.trans' (Only.trans' (Only.trans' (Only.trans' (Only.trans' o345 o365) o375) o386) o399) o418) o426) o433) o444), (Only.trans (Only.trans (Only.trans (Only.trans (Only.trans (Only.trans (Only.trans (Only.trans (Only.trans (Only.refl NoF w104) o345 (fun _ h => h.elim)) o365 (fun _ h => h.elim)) o375 (fun _ h => h.elim)) o386 (fun _ h => h.elim)) o399 (fun _ h => h.elim)) o418 (fun _ h => h.elim)) o426 (fun _ h => h.elim)) o433 (fun _ h => h.elim)) o444 (fun _ h => h.elim))⟩, ?_⟩
     clear Z az; intro az Z
     obtain ⟨A448, w449, hw, hA, r450, o451⟩ := Row.made (w := w447) KRef (e := 59) ([(⟨0, 2⟩ : RM), (⟨1, 2⟩ : RM)] : List RM) (by simp only [List.length_cons, List.length_nil]; unfold maxLen; omega)
     refine Pl.MDT Z rfl rfl (r_bs (z := .agg #[.int .i64 (0), .int .i64 (0)]) (size := 2) (vs := [(0, .agg #[.int .i64 (0), .int .i64 (2)]), (1, .agg #[.int .i64 (1), .int .i64 (2)])]) (cs := List.flatMap KRef.cells [(⟨0, 2⟩ : RM), (⟨1, 2⟩ : RM)]) Tryz.underlying35 Tryz.sizeOf59 Tryz.zeroValue59 rfl (Fr.evalps Z rfl) (by kernel_rfl)) rfl rfl ?_ ?_
     · rw [← hw]; exact ⟨fun _ => (Only.trans' (Only.trans' (Only.trans' (Only.trans' (Only.trans' (Only.trans' (Only.trans' (Only.trans' (Only.trans' o345 o365) o375) o386) o399) o418) o426) o433) o444) o451), (Only.trans (Only.trans (Only.trans (Only.trans (Only.trans (Only.trans (Only.trans (Only.trans (Only.trans (Only.trans (Only.refl NoF w104) o345 (fun _ h => h.elim)) o365 (fun _ h => h.elim)) o375 (fun _ h => h.elim)) o386 (fun _ h => h.elim)) o399 (fun _ h => h.elim)) o418 (fun _ h => h.elim)) o426 (fun _ h => h.elim)) o433 (fun _ h => h.elim)) o444 (fun _ h => h.elim)) o451 (fun _ h => h.elim))⟩
     rw [← hw, ← hA]; clear Z az; intro az Z
     clear hw hA
     have ok452 : ∀ zq ∈ ([(⟨0, 2⟩ : RM), (⟨1, 2⟩ : RM)] : List RM), KRef.ok zq := by intro zq hx; simp only [List.mem_cons, List.not_mem_nil, or_false] at hx; rcases hx with rfl | rfl <;> first | exact (show I64 (0) ∧ I64 (2) from ⟨by unfold I64; omega, by unfold I64; omega⟩) | exact (show I64 (1) ∧ I64 (2) from ⟨by unfold I64; omega, by unfold I64; omega⟩)
     have h453 := Row.own KRef r443 ok445
     have h454 := (SliceOf.kp h453 o451 (fun _ _ h => h) (fun _ _ _ _ h => h))
     have h455 := SliceOf.pl h454
     have h456 := Row.own KRef r450 ok452
     have h457 := SliceOf.pl h456
     refine Pl.MSGV (v := .bool (true)) Z rfl rfl gd_t rfl rfl (fun hb => rfl) Tryz.call19 (fun hb => fix_eq (congrArg Value.bool (decide_eq_true sm_5)) (rSameRefs_v_ h455 h457)) rfl (fun w' o' => ⟨fun _ => (Only.trans' (Only.trans' (Only.trans' (Only.trans' (Only.trans' (Only.trans' (Only.trans' (Only.trans' (Only.trans' (Only.trans' o345 o365) o375) o386) o399) o418) o426) o433) o444) o451) o'), (Only.trans (Only.trans (Only.trans (Only.trans (Only.trans (Only.trans (Only.trans (Only.trans (Only.trans (Only.trans (Only.trans (Only.refl NoF w104) o345 (fun _ h => h.elim)) o365 (fun _ h => h.elim)) o375 (fun _ h => h.elim)) o386 (fun _ h => h.elim)) o399 (fun _ h => h.elim)) o418 (fun _ h => h.elim)) o426 (fun _ h => h.elim)) o433 (fun _ h => h.elim)) o444 (fun _ h => h.elim)) o451 (fun _ h => h.elim)) o' (fun _ h => h.elim))⟩) fun w458 o459 => ?_; clear Z az; intro az Z
     refine Pl.MSP (b := true) (by kernel_rfl) (fun W oW => r_pick Z rfl rfl rfl) Z rfl rfl ?_; clear Z az; intro az Z
     refine Pl.MSP (b := true) (by kernel_rfl) (fun W oW => r_as Z rfl) Z rfl rfl ?_; clear Z az; intro az Z
     refine wpPl_nil ?_
     have O460 : Only NoF w100 w458 := (Only.trans' (Only.trans' (Only.trans' (Only.trans' (Only.trans' (Only.trans' (Only.trans' (Only.trans' (Only.trans' (Only.trans' (Only.trans' o105 o345) o365) o375) o386) o399) o418) o426) o433) o444) o451) o459)
     exact ⟨Z.cut ⟨rfl, rfl, rfl, rfl, rfl, rfl, rfl, rfl, trivial⟩, O460⟩
    ·
     obtain ⟨A461, w462, hw, hA, r463, o464⟩ := Row.made (w := w432) KRef (e := 59) ([(⟨0, 2⟩ : RM), (⟨1, 2⟩ : RM)] : List RM) (by simp only [List.length_cons, List.length_nil]; unfold maxLen; omega)
     refine Pl.MDT Z rfl rfl (r_bs (z := .agg #[.int .i64 (0), .int .i64 (0)]) (size := 2) (vs := [(0, .agg #[.int .i64 (0), .int .i64 (2)]), (1, .agg #[.int .i64 (1), .int .i64 (2)])]) (cs := List.flatMap KRef.cells [(⟨0, 2⟩ : RM), (⟨1, 2⟩ : RM)]) Tryz.underlying35 Tryz.sizeOf59 Tryz.zeroValue59 rfl (Fr.evalps Z rfl) (by kernel_rfl)) rfl rfl ?_ ?_
     · rw [← hw]; exact ⟨fun _ => (Only.trans' (Only.trans' (Only.trans' (Only.trans' (Only.trans' (Only.trans' (Only.trans' (Only.trans' o345 o365) o375) o386) o399) o418) o426) o433) o464), (Only.trans (Only.trans (Only.trans (Only.trans (Only.trans (Only.trans (Only.trans (Only.trans (Only.trans (Only.refl NoF w104) o345 (fun _ h => h.elim)) o365 (fun _ h => h.elim)) o375 (fun _ h => h.elim)) o386 (fun _ h => h.elim)) o399 (fun _ h => h.elim)) o418 (fun _ h => h.elim)) o426 (fun _ h => h.elim)) o433 (fun _ h => h.elim)) o464 (fun _ h => h.elim))⟩
     rw [← hw, ← hA]; clear Z az; intro az Z
     clear hw hA
     have ok465 : ∀ zq ∈ ([(⟨0, 2⟩ : RM), (⟨1, 2⟩ : RM)] : List RM), KRef.ok zq := by intro zq hx; simp only [List.mem_cons, List.not_mem_nil, or_false] at hx; rcases hx with rfl | rfl <;> first | exact (show I64 (0) ∧ I64 (2) from ⟨by unfold I64; omega, by unfold I64; omega⟩) | exact (show I64 (1) ∧ I64 (2) from ⟨by unfold I64; omega, by unfold I64; omega⟩)
     have O467 : Only NoF w w462 := (Only.trans' (Only.trans' (Only.trans' (Only.trans' O404 o418) o426) o433) o464)
     have G466 := Gr.k hG O467
     have O468 : Only NoF w343 w462 := (Only.trans' (Only.trans' O428 o433) o464)
     have h469 := (SliceOf.kp h355 O468 (fun _ _ h => h) (fun _ _ _ _ h => h))
     have h470 := SliceOf.pl h469
     have r471 := (ow_k (ow_k (ow_k (ow_k r408 o418) o426) o433) o464)
     have nt472 : NtV w462 (.slice A76 (List.length ([(mD A51), mB, mA, mC, mA] : List NM)) 5) [(mD A51), mB, mA, mC, mA] := ⟨SliceOf.pl (Row.own KN0 r471 (fun _ _ => trivial)), (ok_cons (okN_mk (by unfold I64; omega) h470 (by unfold maxLen; decide)) (ok_cons (okN_mk (by unfold I64; omega) (SliceOf.nil_ _ _ _) (by unfold maxLen; decide)) (ok_cons (okN_mk (by unfold I64; omega) (SliceOf.nil_ _ _ _) (by unfold maxLen; decide)) (ok_cons (okN_mk (by unfold I64; omega) (SliceOf.nil_ _ _ _) (by unfold maxLen; decide)) (ok_cons (okN_mk (by unfold I64; omega) (SliceOf.nil_ _ _ _) (by unfold maxLen; decide)) OkNs.nil)))))⟩
     have hC478 := Heads_v_ G466 nt472 (by first | omega | (simp only [List.length_cons, List.length_nil]; omega))
     refine Pl.MSCT Z rfl rfl rfl rfl rfl Tryz.call20 (hC478) rfl ?_
     rintro e w479 ⟨A473, c474, rfl, r475, ok477, o476⟩; refine ⟨_, rfl, ⟨fun _ => (Only.trans' (Only.trans' (Only.trans' (Only.trans' (Only.trans' (Only.trans' (Only.trans' (Only.trans' (Only.trans' o345 o365) o375) o386) o399) o418) o426) o433) o464) o476), (Only.trans (Only.trans (Only.trans (Only.trans (Only.trans (Only.trans (Only.trans (Only.trans (Only.trans (Only.trans (Only.refl NoF w104) o345 (fun _ h => h.elim)) o365 (fun _ h => h.elim)) o375 (fun _ h => h.elim)) o386 (fun _ h => h.elim)) o399 (fun _ h => h.elim)) o418 (fun _ h => h.elim)) o426 (fun _ h => h.elim)) o433 (fun _ h => h.elim)) o464 (fun _ h => h.elim)) o476 (fun _ h => h.elim))⟩, ?_⟩
     clear Z az; intro az Z
     have h480 := Row.own KRef r475 ok477
     have h481 := SliceOf.pl h480
     have h482 := Row.own KRef r463 ok465
     have h483 := (SliceOf.kp h482 o476 (fun _ _ h => h) (fun _ _ _ _ h => h))
     have h484 := SliceOf.pl h483
     refine Pl.MSGV (v := .bool (true)) Z rfl rfl gd_t rfl rfl (fun hb => rfl) Tryz.call19 (fun hb => fix_eq (congrArg Value.bool (decide_eq_true sm_5)) (rSameRefs_v_ h481 h484)) rfl (fun w' o' => ⟨fun _ => (Only.trans' (Only.trans' (Only.trans' (Only.trans' (Only.trans' (Only.trans' (Only.trans' (Only.trans' (Only.trans' (Only.trans' o345 o365) o375) o386) o399) o418) o426) o433) o464) o476) o'), (Only.trans (Only.trans (Only.trans (Only.trans (Only.trans (Only.trans (Only.trans (Only.trans (Only.trans (Only.trans (Only.trans (Only.refl NoF w104) o345 (fun _ h => h.elim)) o365 (fun _ h => h.elim)) o375 (fun _ h => h.elim)) o386 (fun _ h => h.elim)) o399 (fun _ h => h.elim)) o418 (fun _ h => h.elim)) o426 (fun _ h => h.elim)) o433 (fun _ h => h.elim)) o464 (fun _ h => h.elim)) o476 (fun _ h => h.elim)) o' (fun _ h => h.elim))⟩) fun w485 o486 => ?_; clear Z az; intro az Z
     refine Pl.MSP (b := true) (by kernel_rfl) (fun W oW => r_pick Z rfl rfl rfl) Z rfl rfl ?_; clear Z az; intro az Z
     refine Pl.MSP (b := true) (by kernel_rfl) (fun W oW => r_as Z rfl) Z rfl rfl ?_; clear Z az; intro az Z
     refine wpPl_nil ?_
     have O487 : Only NoF w100 w485 := (Only.trans' (Only.trans' (Only.trans' (Only.trans' (Only.trans' (Only.trans' (Only.trans' (Only.trans' (Only.trans' (Only.trans' (Only.trans' o105 o345) o365) o375) o386) o399) o418) o426) o433) o464) o476) o486)
     exact ⟨Z.cut ⟨rfl, rfl, rfl, rfl, rfl, rfl, rfl, rfl, trivial⟩, O487⟩
   ·
    obtain ⟨A488, w489, hw, hA, r490, o491⟩ := Row.made (w := w402) KN0 (e := 43) ([mA, mB, mC, (mD A51)] : List NM) (by simp only [List.length_cons, List.length_nil]; unfold maxLen; omega)
    refine Pl.MDT Z rfl rfl (r_bs (z := .agg #[.int .i64 (0), .int .i64 (0), .int .i64 (0), .slice none (0) 0, strV ([])]) (size := 5) (vs := [(0, .agg #[.int .i64 (0), .int .i64 (0), .int .i64 (5), .slice none (0) 0, strV ([])]), (1, .agg #[.int .i64 (0), .int .i64 (1), .int .i64 (5), .slice none (0) 0, strV ([])]), (2, .agg #[.int .i64 (1), .int .i64 (0), .int .i64 (4), .slice none (0) 0, strV ([])]), (3, .agg #[.int .i64 (1), .int .i64 (1), .int .i64 (4), .slice A51 (1) 1, strV ([])])]) (cs := List.flatMap KN0.cells [mA, mB, mC, (mD A51)]) Tryz.underlying22 Tryz.sizeOf43 Tryz.zeroValue43 rfl (Fr.evalps Z rfl) (by kernel_rfl)) rfl rfl ?_ ?_
    · rw [← hw]; exact ⟨fun _ => (Only.trans' (Only.trans' (Only.trans' (Only.trans' (Only.trans' o345 o365) o375) o386) o399) o491), (Only.trans (Only.trans (Only.trans (Only.trans (Only.trans (Only.trans (Only.refl NoF w104) o345 (fun _ h => h.elim)) o365 (fun _ h => h.elim)) o375 (fun _ h => h.elim)) o386 (fun _ h => h.elim)) o399 (fun _ h => h.elim)) o491 (fun _ h => h.elim))⟩
    rw [← hw, ← hA]; clear Z az; intro az Z
    clear hw hA
    have ok492 : ∀ zq ∈ ([mA, mB, mC, (mD A51)] : List NM), KN0.ok zq := by intro zq hx; simp only [List.mem_cons, List.not_mem_nil, or_false] at hx; rcases hx with rfl | rfl | rfl | rfl <;> first | exact trivial | exact trivial | exact trivial | exact trivial
    have O494 : Only NoF w w489 := (Only.trans' (Only.trans' O390 o399) o491)
    have G493 := Gr.k hG O494
    have O495 : Only NoF w343 w489 := (Only.trans' (Only.trans' O391 o399) o491)
    have h496 := (SliceOf.kp h355 O495 (fun _ _ h => h) (fun _ _ _ _ h => h))
    have h497 := SliceOf.pl h496
    have r498 := (ow_k (ow_k r394 o399) o491)
    have nt499 : NtV w489 (.slice A76 (List.length ([(mD A51), mB, mA, mC, mA] : List NM)) 5) [(mD A51), mB, mA, mC, mA] := ⟨SliceOf.pl (Row.own KN0 r498 (fun _ _ => trivial)), (ok_cons (okN_mk (by unfold I64; omega) h497 (by unfold maxLen; decide)) (ok_cons (okN_mk (by unfold I64; omega) (SliceOf.nil_ _ _ _) (by unfold maxLen; decide)) (ok_cons (okN_mk (by unfold I64; omega) (SliceOf.nil_ _ _ _) (by unfold maxLen; decide)) (ok_cons (okN_mk (by unfold I64; omega) (SliceOf.nil_ _ _ _) (by unfold maxLen; decide)) (ok_cons (okN_mk (by unfold I64; omega) (SliceOf.nil_ _ _ _) (by unfold maxLen; decide)) OkNs.nil)))))⟩
    have r500 := (ow_k (ow_k (ow_k (ow_k (ow_k (ow_k (ow_k (ow_k (ow_k (ow_k r87 o92) o98) o102) o105) o345) o365) o375) o386) o399) o491)
    have nt501 : NtV w489 (.slice A85 (List.length ([mB, mC, (mD A51)] : List NM)) 3) [mB, mC, (mD A51)] := ⟨SliceOf.pl (Row.own KN0 r500 (fun _ _ => trivial)), (ok_cons (okN_mk (by unfold I64; omega) (SliceOf.nil_ _ _ _) (by unfold maxLen; decide)) (ok_cons (okN_mk (by unfold I64; omega) (SliceOf.nil_ _ _ _) (by unfold maxLen; decide)) (ok_cons (okN_mk (by unfold I64; omega) h497 (by unfold maxLen; decide)) OkNs.nil)))⟩
    have hC509 := Join_v_ G493 nt499 nt501 (by first | omega | (simp only [List.length_cons, List.length_nil]; omega))
    refine Pl.MSCT Z rfl rfl rfl rfl rfl Tryz.call10 (hC509) rfl ?_
    rintro e w510 ⟨A502, c503, L504, rfl, hL505, hS506, hN507, o508⟩; refine ⟨_, rfl, ⟨fun _ => (Only.trans' (Only.trans' (Only.trans' (Only.trans' (Only.trans' (Only.trans' o345 o365) o375) o386) o399) o491) o508), (Only.trans (Only.trans (Only.trans (Only.trans (Only.trans (Only.trans (Only.trans (Only.refl NoF w104) o345 (fun _ h => h.elim)) o365 (fun _ h => h.elim)) o375 (fun _ h => h.elim)) o386 (fun _ h => h.elim)) o399 (fun _ h => h.elim)) o491 (fun _ h => h.elim)) o508 (fun _ h => h.elim))⟩, ?_⟩
    clear Z az; intro az Z
    have nt511 : NtV w510 (.slice A502 (L504.length) c503) L504 := ⟨SliceOf.pl hS506, OkNs.pl hN507⟩
    have hm512 : L504.length ≤ 1000000 := (by have h0 := congrArg List.length hL505; rw [List.length_map] at h0; rw [h0]; first | exact Nat.le_trans (joinN_le _) (by simp only [List.length_append, List.length_cons, List.length_nil]; omega))
    have O513 : Only NoF w343 w510 := (Only.trans' O495 o508)
    have h514 := (SliceOf.kp h355 O513 (fun _ _ h => h) (fun _ _ _ _ h => h))
    have h515 := SliceOf.pl h514
    have r516 := (ow_k r490 o508)
    have nt517 : NtV w510 (.slice A488 (List.length ([mA, mB, mC, (mD A51)] : List NM)) 4) [mA, mB, mC, (mD A51)] := ⟨SliceOf.pl (Row.own KN0 r516 (fun _ _ => trivial)), (ok_cons (okN_mk (by unfold I64; omega) (SliceOf.nil_ _ _ _) (by unfold maxLen; decide)) (ok_cons (okN_mk (by unfold I64; omega) (SliceOf.nil_ _ _ _) (by unfold maxLen; decide)) (ok_cons (okN_mk (by unfold I64; omega) (SliceOf.nil_ _ _ _) (by unfold maxLen; decide)) (ok_cons (okN_mk (by unfold I64; omega) h515 (by unfold maxLen; decide)) OkNs.nil))))⟩
    refine Pl.MSGV (v := .bool (true)) Z rfl rfl gd_t rfl rfl (fun hb => rfl) Tryz.call9 (fun hb => fix_eq (congrArg Value.bool (decide_eq_true (hL505.trans sm_4))) (rSameChain_v (NtV.notes nt511) (NtV.notes nt517))) rfl (fun w' o' => ⟨fun _ => (Only.trans' (Only.trans' (Only.trans' (Only.trans' (Only.trans' (Only.trans' (Only.trans' o345 o365) o375) o386) o399) o491) o508) o'), (Only.trans (Only.trans (Only.trans (Only.trans (Only.trans (Only.trans (Only.trans (Only.trans (Only.refl NoF w104) o345 (fun _ h => h.elim)) o365 (fun _ h => h.elim)) o375 (fun _ h => h.elim)) o386 (fun _ h => h.elim)) o399 (fun _ h => h.elim)) o491 (fun _ h => h.elim)) o508 (fun _ h => h.elim)) o' (fun _ h => h.elim))⟩) fun w518 o519 => ?_; clear Z az; intro az Z
    refine Pl.MSP (b := true) (by kernel_rfl) (fun W oW => r_pick Z rfl rfl rfl) Z rfl rfl ?_; clear Z az; intro az Z
    refine Pl.MSP (b := true) (by kernel_rfl) (fun W oW => r_mv Z rfl) Z rfl rfl ?_; clear Z az; intro az Z
    refine Pl.MSPT (b := true) (by kernel_rfl) Z rfl rfl (fun W oW => r_mv Z rfl) rfl rfl ?_; clear Z az; intro az Z
    refine Pl.MSPT (b := true) (by kernel_rfl) Z rfl rfl (fun W oW => r_bd (v := .agg #[.int .i64 (0), .int .i64 (2)]) (build_Ref2 _ _) Z rfl) rfl rfl ?_; clear Z az; intro az Z
    refine Pl.MSPT (b := true) (by kernel_rfl) Z rfl rfl (fun W oW => r_bd (v := .agg #[.int .i64 (1), .int .i64 (2)]) (build_Ref2 _ _) Z rfl) rfl rfl ?_; clear Z az; intro az Z
    refine wpPl_fork ?_ ?_
    ·
     have O521 : Only NoF w w518 := (Only.trans' (Only.trans' O494 o508) o519)
     have G520 := Gr.k hG O521
     have O522 : Only NoF w343 w518 := (Only.trans' O513 o519)
     have h523 := (SliceOf.kp h355 O522 (fun _ _ h => h) (fun _ _ _ _ h => h))
     have h524 := SliceOf.pl h523
     have r525 := (ow_k (ow_k r498 o508) o519)
     have nt526 : NtV w518 (.slice A76 (List.length ([(mD A51), mB, mA, mC, mA] : List NM)) 5) [(mD A51), mB, mA, mC, mA] := ⟨SliceOf.pl (Row.own KN0 r525 (fun _ _ => trivial)), (ok_cons (okN_mk (by unfold I64; omega) h524 (by unfold maxLen; decide)) (ok_cons (okN_mk (by unfold I64; omega) (SliceOf.nil_ _ _ _) (by unfold maxLen; decide)) (ok_cons (okN_mk (by unfold I64; omega) (SliceOf.nil_ _ _ _) (by unfold maxLen; decide)) (ok_cons (okN_mk (by unfold I64; omega) (SliceOf.nil_ _ _ _) (by unfold maxLen; decide)) (ok_cons (okN_mk (by unfold I64; omega) (SliceOf.nil_ _ _ _) (by unfold maxLen; decide)) OkNs.nil)))))⟩
     have hC532 := Heads_v_ G520 nt526 (by first | omega | (simp only [List.length_cons, List.length_nil]; omega))
     refine Pl.MSCT Z rfl rfl rfl rfl rfl Tryz.call20 (hC532) rfl ?_
     rintro e w533 ⟨A527, c528, rfl, r529, ok531, o530⟩; refine ⟨_, rfl, ⟨fun _ => (Only.trans' (Only.trans' (Only.trans' (Only.trans' (Only.trans' (Only.trans' (Only.trans' (Only.trans' o345 o365) o375) o386) o399) o491) o508) o519) o530), (Only.trans (Only.trans (Only.trans (Only.trans (Only.trans (Only.trans (Only.trans (Only.trans (Only.trans (Only.refl NoF w104) o345 (fun _ h => h.elim)) o365 (fun _ h => h.elim)) o375 (fun _ h => h.elim)) o386 (fun _ h => h.elim)) o399 (fun _ h => h.elim)) o491 (fun _ h => h.elim)) o508 (fun _ h => h.elim)) o519 (fun _ h => h.elim)) o530 (fun _ h => h.elim))⟩, ?_⟩
     clear Z az; intro az Z
     obtain ⟨A534, w535, hw, hA, r536, o537⟩ := Row.made (w := w533) KRef (e := 59) ([(⟨0, 2⟩ : RM), (⟨1, 2⟩ : RM)] : List RM) (by simp only [List.length_cons, List.length_nil]; unfold maxLen; omega)
     refine Pl.MDT Z rfl rfl (r_bs (z := .agg #[.int .i64 (0), .int .i64 (0)]) (size := 2) (vs := [(0, .agg #[.int .i64 (0), .int .i64 (2)]), (1, .agg #[.int .i64 (1), .int .i64 (2)])]) (cs := List.flatMap KRef.cells [(⟨0, 2⟩ : RM), (⟨1, 2⟩ : RM)]) Tryz.underlying35 Tryz.sizeOf59 Tryz.zeroValue59 rfl (Fr.evalps Z rfl) (by kernel_rfl)) rfl rfl ?_ ?_
     · rw [← hw]; exact ⟨fun _ => (Only.trans' (Only.trans' (Only.trans' (Only.trans' (Only.trans' (Only.trans' (Only.trans' (Only.trans' (Only.trans' o345 o365) o375) o386) o399) o491) o508) o519) o530) o537), (Only.trans (Only.trans (Only.trans (Only.trans (Only.trans (Only.trans (Only.trans (Only.trans (Only.trans (Only.trans (Only.refl NoF w104) o345 (fun _ h => h.elim)) o365 (fun _ h => h.elim)) o375 (fun _ h => h.elim)) o386 (fun _ h => h.elim)) o399 (fun _ h => h.elim)) o491 (fun _ h => h.elim)) o508 (fun _ h => h.elim)) o519 (fun _ h => h.elim)) o530 (fun _ h => h.elim)) o537 (fun _ h => h.elim))⟩
     rw [← hw, ← hA]; clear Z az; intro az Z
     clear hw hA
     have ok538 : ∀ zq ∈ ([(⟨0, 2⟩ : RM), (⟨1, 2⟩ : RM)] : List RM), KRef.ok zq := by intro zq hx; simp only [List.mem_cons, List.not_mem_nil, or_false] at hx; rcases hx with rfl | rfl <;> first | exact (show I64 (0) ∧ I64 (2) from ⟨by unfold I64; omega, by unfold I64; omega⟩) | exact (show I64 (1) ∧ I64 (2) from ⟨by unfold I64; omega, by unfold I64; omega⟩)
     have h539 := Row.own KRef r529 ok531
     have h540 := (SliceOf.kp h539 o537 (fun _ _ h => h) (fun _ _ _ _ h => h))
     have h541 := SliceOf.pl h540
     have h542 := Row.own KRef r536 ok538
     have h543 := SliceOf.pl h542
     refine Pl.MSGV (v := .bool (true)) Z rfl rfl gd_t rfl rfl (fun hb => rfl) Tryz.call19 (fun hb => fix_eq (congrArg Value.bool (decide_eq_true sm_5)) (rSameRefs_v_ h541 h543)) rfl (fun w' o' => ⟨fun _ => (Only.trans' (Only.trans' (Only.trans' (Only.trans' (Only.trans' (Only.trans' (Only.trans' (Only.trans' (Only.trans' (Only.trans' o345 o365) o375) o386) o399) o491) o508) o519) o530) o537) o'), (Only.trans (Only.trans (Only.trans (Only.trans (Only.trans (Only.trans (Only.trans (Only.trans (Only.trans (Only.trans (Only.trans (Only.refl NoF w104) o345 (fun _ h => h.elim)) o365 (fun _ h => h.elim)) o375 (fun _ h => h.elim)) o386 (fun _ h => h.elim)) o399 (fun _ h => h.elim)) o491 (fun _ h => h.elim)) o508 (fun _ h => h.elim)) o519 (fun _ h => h.elim)) o530 (fun _ h => h.elim)) o537 (fun _ h => h.elim)) o' (fun _ h => h.elim))⟩) fun w544 o545 => ?_; clear Z az; intro az Z
     refine Pl.MSP (b := true) (by kernel_rfl) (fun W oW => r_pick Z rfl rfl rfl) Z rfl rfl ?_; clear Z az; intro az Z
     refine Pl.MSP (b := true) (by kernel_rfl) (fun W oW => r_as Z rfl) Z rfl rfl ?_; clear Z az; intro az Z
     refine wpPl_nil ?_
     have O546 : Only NoF w100 w544 := (Only.trans' (Only.trans' (Only.trans' (Only.trans' (Only.trans' (Only.trans' (Only.trans' (Only.trans' (Only.trans' (Only.trans' (Only.trans' o105 o345) o365) o375) o386) o399) o491) o508) o519) o530) o537) o545)
     exact ⟨Z.cut ⟨rfl, rfl, rfl, rfl, rfl, rfl, rfl, rfl, trivial⟩, O546⟩
    ·
     obtain ⟨A547, w548, hw, hA, r549, o550⟩ := Row.made (w := w518) KRef (e := 59) ([(⟨0, 2⟩ : RM), (⟨1, 2⟩ : RM)] : List RM) (by simp only [List.length_cons, List.length_nil]; unfold maxLen; omega)
     refine Pl.MDT Z rfl rfl (r_bs (z := .agg #[.int .i64 (0), .int .i64 (0)]) (size := 2) (vs := [(0, .agg #[.int .i64 (0), .int .i64 (2)]), (1, .agg #[.int .i64 (1), .int .i64 (2)])]) (cs := List.flatMap KRef.cells [(⟨0, 2⟩ : RM), (⟨1, 2⟩ : RM)]) Tryz.underlying35 Tryz.sizeOf59 Tryz.zeroValue59 rfl (Fr.evalps Z rfl) (by kernel_rfl)) rfl rfl ?_ ?_
     · rw [← hw]; exact ⟨fun _ => (Only.trans' (Only.trans' (Only.trans' (Only.trans' (Only.trans' (Only.trans' (Only.trans' (Only.trans' o345 o365) o375) o386) o399) o491) o508) o519) o550), (Only.trans (Only.trans (Only.trans (Only.trans (Only.trans (Only.trans (Only.trans (Only.trans (Only.trans (Only.refl NoF w104) o345 (fun _ h => h.elim)) o365 (fun _ h => h.elim)) o375 (fun _ h => h.elim)) o386 (fun _ h => h.elim)) o399 (fun _ h => h.elim)) o491 (fun _ h => h.elim)) o508 (fun _ h => h.elim)) o519 (fun _ h => h.elim)) o550 (fun _ h => h.elim))⟩
     rw [← hw, ← hA]; clear Z az; intro az Z
     clear hw hA
     have ok551 : ∀ zq ∈ ([(⟨0, 2⟩ : RM), (⟨1, 2⟩ : RM)] : List RM), KRef.ok zq := by intro zq hx; simp only [List.mem_cons, List.not_mem_nil, or_false] at hx; rcases hx with rfl | rfl <;> first | exact (show I64 (0) ∧ I64 (2) from ⟨by unfold I64; omega, by unfold I64; omega⟩) | exact (show I64 (1) ∧ I64 (2) from ⟨by unfold I64; omega, by unfold I64; omega⟩)
     have O553 : Only NoF w w548 := (Only.trans' (Only.trans' (Only.trans' O494 o508) o519) o550)
     have G552 := Gr.k hG O553
     have O554 : Only NoF w343 w548 := (Only.trans' (Only.trans' O513 o519) o550)
     have h555 := (SliceOf.kp h355 O554 (fun _ _ h => h) (fun _ _ _ _ h => h))
     have h556 := SliceOf.pl h555
     have r557 := (ow_k (ow_k (ow_k r498 o508) o519) o550)
     have nt558 : NtV w548 (.slice A76 (List.length ([(mD A51), mB, mA, mC, mA] : List NM)) 5) [(mD A51), mB, mA, mC, mA] := ⟨SliceOf.pl (Row.own KN0 r557 (fun _ _ => trivial)), (ok_cons (okN_mk (by unfold I64; omega) h556 (by unfold maxLen; decide)) (ok_cons (okN_mk (by unfold I64; omega) (SliceOf.nil_ _ _ _) (by unfold maxLen; decide)) (ok_cons (okN_mk (by unfold I64; omega) (SliceOf.nil_ _ _ _) (by unfold maxLen; decide)) (ok_cons (okN_mk (by unfold I64; omega) (SliceOf.nil_ _ _ _) (by unfold maxLen; decide)) (ok_cons (okN_mk (by unfold I64; omega) (SliceOf.nil_ _ _ _) (by unfold maxLen; decide)) OkNs.nil)))))⟩
     have hC564 := Heads_v_ G552 nt558 (by first | omega | (simp only [List.length_cons, List.length_nil]; omega))
     refine Pl.MSCT Z rfl rfl rfl rfl rfl Tryz.call20 (hC564) rfl ?_
     rintro e w565 ⟨A559, c560, rfl, r561, ok563, o562⟩; refine ⟨_, rfl, ⟨fun _ => (Only.trans' (Only.trans' (Only.trans' (Only.trans' (Only.trans' (Only.trans' (Only.trans' (Only.trans' (Only.trans' o345 o365) o375) o386) o399) o491) o508) o519) o550) o562), (Only.trans (Only.trans (Only.trans (Only.trans (Only.trans (Only.trans (Only.trans (Only.trans (Only.trans (Only.trans (Only.refl NoF w104) o345 (fun _ h => h.elim)) o365 (fun _ h => h.elim)) o375 (fun _ h => h.elim)) o386 (fun _ h => h.elim)) o399 (fun _ h => h.elim)) o491 (fun _ h => h.elim)) o508 (fun _ h => h.elim)) o519 (fun _ h => h.elim)) o550 (fun _ h => h.elim)) o562 (fun _ h => h.elim))⟩, ?_⟩
     clear Z az; intro az Z
     have h566 := Row.own KRef r561 ok563
     have h567 := SliceOf.pl h566
     have h568 := Row.own KRef r549 ok551
     have h569 := (SliceOf.kp h568 o562 (fun _ _ h => h) (fun _ _ _ _ h => h))
     have h570 := SliceOf.pl h569
     refine Pl.MSGV (v := .bool (true)) Z rfl rfl gd_t rfl rfl (fun hb => rfl) Tryz.call19 (fun hb => fix_eq (congrArg Value.bool (decide_eq_true sm_5)) (rSameRefs_v_ h567 h570)) rfl (fun w' o' => ⟨fun _ => (Only.trans' (Only.trans' (Only.trans' (Only.trans' (Only.trans' (Only.trans' (Only.trans' (Only.trans' (Only.trans' (Only.trans' o345 o365) o375) o386) o399) o491) o508) o519) o550) o562) o'), (Only.trans (Only.trans (Only.trans (Only.trans (Only.trans (Only.trans (Only.trans (Only.trans (Only.trans (Only.trans (Only.trans (Only.refl NoF w104) o345 (fun _ h => h.elim)) o365 (fun _ h => h.elim)) o375 (fun _ h => h.elim)) o386 (fun _ h => h.elim)) o399 (fun _ h => h.elim)) o491 (fun _ h => h.elim)) o508 (fun _ h => h.elim)) o519 (fun _ h => h.elim)) o550 (fun _ h => h.elim)) o562 (fun _ h => h.elim)) o' (fun _ h => h.elim))⟩) fun w571 o572 => ?_; clear Z az; intro az Z
     refine Pl.MSP (b := true) (by kernel_rfl) (fun W oW => r_pick Z rfl rfl rfl) Z rfl rfl ?_; clear Z az; intro az Z
     refine Pl.MSP (b := true) (by kernel_rfl) (fun W oW => r_as Z rfl) Z rfl rfl ?_; clear Z az; intro az Z
     refine wpPl_nil ?_
     have O573 : Only NoF w100 w571 := (Only.trans' (Only.trans' (Only.trans' (Only.trans' (Only.trans' (Only.trans' (Only.trans' (Only.trans' (Only.trans' (Only.trans' (Only.trans' o105 o345) o365) o375) o386) o399) o491) o508) o519) o550) o562) o572)
     exact ⟨Z.cut ⟨rfl, rfl, rfl, rfl, rfl, rfl, rfl, rfl, trivial⟩, O573⟩
 clear Z az
 rintro az w574 ⟨Z, o575⟩
 refine wp_join (fun az W => Fr 137 [(1, .pointer (some ((⟨g5, 0, none⟩ : Addr)))), (3, .pointer (some ((⟨g29, 0, none⟩ : Addr)))), (4, .pointer (some ((⟨g41, 0, none⟩ : Addr)))), (5, .slice A76 (5) 5), (6, .slice A85 (3) 3), (7, .slice A99 (5) 5), (8, .bool (true)), (9, .bool (true))] az ∧ Only NoF w574 W) ?_ ?_
 ·
  refine reg_p NoF 9 [1, 3, 4, 7, 9, 10, 14, 17, 18] (.rd 0 (.rd 2 (.fork 1 (.ex 3 (.ex 4 (.rd 5 (.rd 6 (.rd 8 (.fork 7 (.ex 9 (.ex 10 (.rd 11 (.rd 12 (.rd 13 (.rd 15 (.rd 16 (.fork 14 (.ex 17 (.ex 18 (.rd 19 (.rd 20 .nil)))) 17 (.ex 14 (.ex 18 (.rd 19 (.rd 20 .nil)))))))))))) 9 (.ex 7 (.ex 10 (.rd 11 (.rd 12 (.rd 13 (.rd 15 (.rd 16 (.fork 14 (.ex 17 (.ex 18 (.rd 19 (.rd 20 .nil)))) 17 (.ex 14 (.ex 18 (.rd 19 (.rd 20 .nil)))))))))))))))))) 3 (.ex 1 (.ex 4 (.rd 5 (.rd 6 (.rd 8 (.fork 7 (.ex 9 (.ex 10 (.rd 11 (.rd 12 (.rd 13 (.rd 15 (.rd 16 (.fork 14 (.ex 17 (.ex 18 (.rd 19 (.rd 20 .nil)))) 17 (.ex 14 (.ex 18 (.rd 19 (.rd 20 .nil)))))))))))) 9 (.ex 7 (.ex 10 (.rd 11 (.rd 12 (.rd 13 (.rd 15 (.rd 16 (.fork 14 (.ex 17 (.ex 18 (.rd 19 (.rd 20 .nil)))) 17 (.ex 14 (.ex 18 (.rd 19 (.rd 20 .nil))))))))))))))))))))) (by kernel_rfl) (by kernel_rfl) (fun _ _ _ _ _ h => h) fun w576 o577 => ?_
  have B578 := (Blk.k (Blk.k (Blk.k (Blk.k B95 o98) o102) o575) o577)
  have B579 := (Blk.k (Blk.k (Blk.k (Blk.k B93 o98) o102) o575) o577)
  have B580 := (Blk.k (Blk.k (Blk.k (Blk.k B94 o98) o102) o575) o577)
  refine Pl.MSP (b := true) (by kernel_rfl) (fun W oW => r_mv Z rfl) Z rfl rfl ?_; clear Z az; intro az Z
  refine Pl.MSP (b := true) (by kernel_rfl) (fun W oW => r_ldA Tryz.isAgg43 Tryz.sizeOf43 Z rfl (Blk.ca (Blk.k B578 oW)) rfl) Z rfl rfl ?_; clear Z az; intro az Z
  refine wpPl_fork ?_ ?_
  ·
   have O582 : Only NoF w w15 := (Only.trans' (o_sg (Only.trans' o4 o7) s12 (size_only o4) (oneF_ge hg9)) o16)
   have O583 : Only NoF w w27 := (Only.trans' (o_sg (Only.trans' O582 o19) s24 (size_only O582) (oneF_ge hg21)) o28)
   have O584 : Only NoF w w39 := (Only.trans' (o_sg (Only.trans' O583 o31) s36 (size_only O583) (oneF_ge hg33)) o40)
   have O585 : Only NoF w w576 := (Only.trans' (Only.trans' (Only.trans' (Only.trans' (Only.trans' (Only.trans' (Only.trans' (o_sg (Only.trans' (o_sg (Only.trans' (Only.trans' (o_sg (Only.trans' (Only.trans' (o_sg (Only.trans' (Only.trans' (o_sg (Only.trans' o4 o7) s12 (size_only o4) (oneF_ge hg9)) o16) o19) s24 (size_only O582) (oneF_ge hg21)) o28) o31) s36 (size_only O583) (oneF_ge hg33)) o40) o43) s48 (size_only O584) (oneF_ge hg45)) o54) s58 (size_only O584) (oneF_ge hg45)) o79) o88) o92) o98) o102) o575) o577)
   have G581 := Gr.k hG O585
   have h586 := Row.own KRef r53 ok55
   have O587 := (Only.trans (Only.refl (fun _ => True) w42) s48 (fun _ _ => .inl trivial))
   have O588 : Only NoF w57 w576 := (Only.trans' (Only.trans' (Only.trans' (Only.trans' (Only.trans' (Only.trans' o79 o88) o92) o98) o102) o575) o577)
   have h589 := (SliceOf.kp (SliceOf.kp h586 s58 (ge_F (oneF_lt hl46) (size_only O587)) (fun _ _ _ _ h => h)) O588 (fun _ _ h => h) (fun _ _ _ _ h => h))
   have h590 := SliceOf.pl h589
   have r591 := (ow_k (ow_k (ow_k (ow_k (ow_k r87 o92) o98) o102) o575) o577)
   have nt592 : NtV w576 (.slice A85 (List.length ([mB, mC, (mD A51)] : List NM)) 3) [mB, mC, (mD A51)] := ⟨SliceOf.pl (Row.own KN0 r591 (fun _ _ => trivial)), (ok_cons (okN_mk (by unfold I64; omega) (SliceOf.nil_ _ _ _) (by unfold maxLen; decide)) (ok_cons (okN_mk (by unfold I64; omega) (SliceOf.nil_ _ _ _) (by unfold maxLen; decide)) (ok_cons (okN_mk (by unfold I64; omega) h590 (by unfold maxLen; decide)) OkNs.nil)))⟩
   have hC600 := Order_v_ G581 nt592 (by first | omega | (simp only [List.length_cons, List.length_nil]; omega))
   refine Pl.MSC Z rfl rfl rfl Tryz.call17 (hC600) rfl ?_
   rintro e w601 ⟨A593, c594, L595, rfl, hL596, hS597, hN598, o599⟩; refine ⟨_, rfl, ⟨fun _ => o599, (Only.trans (Only.refl NoF w576) o599 (fun _ h => h.elim))⟩, ?_⟩
   clear Z az; intro az Z
   have nt602 : NtV w601 (.slice A593 (L595.length) c594) L595 := ⟨SliceOf.pl hS597, OkNs.pl hN598⟩
   have hm603 : L595.length ≤ 1000000 := (ord_lim hL596 (by first | omega | (simp only [List.length_cons, List.length_nil]; omega)))
   obtain ⟨A604, w605, hw, hA, r606, o607⟩ := Row.made (w := w601) KN0 (e := 43) ([mC] : List NM) (by simp only [List.length_cons, List.length_nil]; unfold maxLen; omega)
   refine Pl.MD (r_bs (z := .agg #[.int .i64 (0), .int .i64 (0), .int .i64 (0), .slice none (0) 0, strV ([])]) (size := 5) (vs := [(0, .agg #[.int .i64 (1), .int .i64 (0), .int .i64 (4), .slice none (0) 0, strV ([])])]) (cs := List.flatMap KN0.cells [mC]) Tryz.underlying22 Tryz.sizeOf43 Tryz.zeroValue43 rfl (Fr.evalps Z rfl) (by kernel_rfl)) Z rfl rfl ?_ ?_
   · rw [← hw]; exact ⟨fun _ => (Only.trans' o599 o607), (Only.trans (Only.trans (Only.refl NoF w576) o599 (fun _ h => h.elim)) o607 (fun _ h => h.elim))⟩
   rw [← hw, ← hA]; clear Z az; intro az Z
   clear hw hA
   have ok608 : ∀ zq ∈ ([mC] : List NM), KN0.ok zq := by intro zq hx; simp only [List.mem_cons, List.not_mem_nil, or_false] at hx; rcases hx with rfl <;> first | exact trivial
   have nt609 : NtV w605 (.slice A604 (List.length ([mC] : List NM)) 1) [mC] := ⟨SliceOf.pl (Row.own KN0 r606 (fun _ _ => trivial)), (ok_cons (okN_mk (by unfold I64; omega) (SliceOf.nil_ _ _ _) (by unfold maxLen; decide)) OkNs.nil)⟩
   refine Pl.MSV (v := .bool (true)) Z rfl rfl rfl Tryz.call9 (fix_eq (congrArg Value.bool (decide_eq_true (hL596.trans sm_6))) (rSameChain_v (NtV.notes (NtV.k nt602 o607)) (NtV.notes nt609))) rfl (fun w' o' => ⟨fun _ => (Only.trans' (Only.trans' o599 o607) o'), (Only.trans (Only.trans (Only.trans (Only.refl NoF w576) o599 (fun _ h => h.elim)) o607 (fun _ h => h.elim)) o' (fun _ h => h.elim))⟩) fun w610 o611 => ?_; clear Z az; intro az Z
   refine Pl.MSP (b := true) (by kernel_rfl) (fun W oW => r_mv Z rfl) Z rfl rfl ?_; clear Z az; intro az Z
   refine Pl.MSPT (b := true) (by kernel_rfl) Z rfl rfl (fun W oW => r_mv Z rfl) rfl rfl ?_; clear Z az; intro az Z
   refine Pl.MSPT (b := true) (by kernel_rfl) Z rfl rfl (fun W oW => r_bd (v := .agg #[.int .i64 (0), .int .i64 (0)]) (build_Ref2 _ _) Z rfl) rfl rfl ?_; clear Z az; intro az Z
   refine wpPl_fork ?_ ?_
   ·
    have O613 : Only NoF w w610 := (Only.trans' (Only.trans' (Only.trans' O585 o599) o607) o611)
    have G612 := Gr.k hG O613
    have O614 : Only NoF w576 w610 := (Only.trans' (Only.trans' o599 o607) o611)
    have h615 := (SliceOf.kp h589 O614 (fun _ _ h => h) (fun _ _ _ _ h => h))
    have h616 := SliceOf.pl h615
    have r617 := (ow_k (ow_k (ow_k r591 o599) o607) o611)
    have nt618 : NtV w610 (.slice A85 (List.length ([mB, mC, (mD A51)] : List NM)) 3) [mB, mC, (mD A51)] := ⟨SliceOf.pl (Row.own KN0 r617 (fun _ _ => trivial)), (ok_cons (okN_mk (by unfold I64; omega) (SliceOf.nil_ _ _ _) (by unfold maxLen; decide)) (ok_cons (okN_mk (by unfold I64; omega) (SliceOf.nil_ _ _ _) (by unfold maxLen; decide)) (ok_cons (okN_mk (by unfold I64; omega) h616 (by unfold maxLen; decide)) OkNs.nil)))⟩
    have hC624 := Missing_v_ G612 nt618 (by first | omega | (simp only [List.length_cons, List.length_nil]; omega))
    refine Pl.MSCT Z rfl rfl rfl rfl rfl Tryz.call22 (hC624) rfl ?_
    rintro e w625 ⟨A619, c620, rfl, r621, ok623, o622⟩; refine ⟨_, rfl, ⟨fun _ => (Only.trans' (Only.trans' (Only.trans' o599 o607) o611) o622), (Only.trans (Only.trans (Only.trans (Only.trans (Only.refl NoF w576) o599 (fun _ h => h.elim)) o607 (fun _ h => h.elim)) o611 (fun _ h => h.elim)) o622 (fun _ h => h.elim))⟩, ?_⟩
    clear Z az; intro az Z
    obtain ⟨A626, w627, hw, hA, r628, o629⟩ := Row.made (w := w625) KRef (e := 59) ([(⟨0, 0⟩ : RM)] : List RM) (by simp only [List.length_cons, List.length_nil]; unfold maxLen; omega)
    refine Pl.MDT Z rfl rfl (r_bs (z := .agg #[.int .i64 (0), .int .i64 (0)]) (size := 2) (vs := [(0, .agg #[.int .i64 (0), .int .i64 (0)])]) (cs := List.flatMap KRef.cells [(⟨0, 0⟩ : RM)]) Tryz.underlying35 Tryz.sizeOf59 Tryz.zeroValue59 rfl (Fr.evalps Z rfl) (by kernel_rfl)) rfl rfl ?_ ?_
    · rw [← hw]; exact ⟨fun _ => (Only.trans' (Only.trans' (Only.trans' (Only.trans' o599 o607) o611) o622) o629), (Only.trans (Only.trans (Only.trans (Only.trans (Only.trans (Only.refl NoF w576) o599 (fun _ h => h.elim)) o607 (fun _ h => h.elim)) o611 (fun _ h => h.elim)) o622 (fun _ h => h.elim)) o629 (fun _ h => h.elim))⟩
    rw [← hw, ← hA]; clear Z az; intro az Z
    clear hw hA
    have ok630 : ∀ zq ∈ ([(⟨0, 0⟩ : RM)] : List RM), KRef.ok zq := by intro zq hx; simp only [List.mem_cons, List.not_mem_nil, or_false] at hx; rcases hx with rfl <;> first | exact (show I64 (0) ∧ I64 (0) from ⟨by unfold I64; omega, by unfold I64; omega⟩)
    have h631 := Row.own KRef r621 ok623
    have h632 := (SliceOf.kp h631 o629 (fun _ _ h => h) (fun _ _ _ _ h => h))
    have h633 := SliceOf.pl h632
    have h634 := Row.own KRef r628 ok630
    have h635 := SliceOf.pl h634
    refine Pl.MSGV (v := .bool (true)) Z rfl rfl gd_t rfl rfl (fun hb => rfl) Tryz.call19 (fun hb => fix_eq (congrArg Value.bool (decide_eq_true sm_7)) (rSameRefs_v_ h633 h635)) rfl (fun w' o' => ⟨fun _ => (Only.trans' (Only.trans' (Only.trans' (Only.trans' (Only.trans' o599 o607) o611) o622) o629) o'), (Only.trans (Only.trans (Only.trans (Only.trans (Only.trans (Only.trans (Only.refl NoF w576) o599 (fun _ h => h.elim)) o607 (fun _ h => h.elim)) o611 (fun _ h => h.elim)) o622 (fun _ h => h.elim)) o629 (fun _ h => h.elim)) o' (fun _ h => h.elim))⟩) fun w636 o637 => ?_; clear Z az; intro az Z
    refine Pl.MSP (b := true) (by kernel_rfl) (fun W oW => r_pick Z rfl rfl rfl) Z rfl rfl ?_; clear Z az; intro az Z
    refine Pl.MSP (b := true) (by kernel_rfl) (fun W oW => r_mv Z rfl) Z rfl rfl ?_; clear Z az; intro az Z
    refine Pl.MSPT (b := true) (by kernel_rfl) Z rfl rfl (fun W oW => r_mv Z rfl) rfl rfl ?_; clear Z az; intro az Z
    refine Pl.MSPT (b := true) (by kernel_rfl) Z rfl rfl (fun W oW => r_ldA Tryz.isAgg43 Tryz.sizeOf43 Z rfl (Blk.ca (Blk.k B579 oW)) rfl) rfl rfl ?_; clear Z az; intro az Z
    refine Pl.MSPT (b := true) (by kernel_rfl) Z rfl rfl (fun W oW => r_ldA Tryz.isAgg43 Tryz.sizeOf43 Z rfl (Blk.ca (Blk.k B580 oW)) rfl) rfl rfl ?_; clear Z az; intro az Z
    refine wpPl_fork ?_ ?_
    ·
     have O639 : Only NoF w w636 := (Only.trans' (Only.trans' (Only.trans' O613 o622) o629) o637)
     have G638 := Gr.k hG O639
     have O640 : Only NoF w576 w636 := (Only.trans' (Only.trans' (Only.trans' O614 o622) o629) o637)
     have h641 := (SliceOf.kp h589 O640 (fun _ _ h => h) (fun _ _ _ _ h => h))
     have h642 := SliceOf.pl h641
     have r643 := (ow_k (ow_k (ow_k (ow_k (ow_k (ow_k (ow_k (ow_k (ow_k (ow_k (ow_k (ow_k r78 o88) o92) o98) o102) o575) o577) o599) o607) o611) o622) o629) o637)
     have nt644 : NtV w636 (.slice A76 (List.length ([(mD A51), mB, mA, mC, mA] : List NM)) 5) [(mD A51), mB, mA, mC, mA] := ⟨SliceOf.pl (Row.own KN0 r643 (fun _ _ => trivial)), (ok_cons (okN_mk (by unfold I64; omega) h642 (by unfold maxLen; decide)) (ok_cons (okN_mk (by unfold I64; omega) (SliceOf.nil_ _ _ _) (by unfold maxLen; decide)) (ok_cons (okN_mk (by unfold I64; omega) (SliceOf.nil_ _ _ _) (by unfold maxLen; decide)) (ok_cons (okN_mk (by unfold I64; omega) (SliceOf.nil_ _ _ _) (by unfold maxLen; decide)) (ok_cons (okN_mk (by unfold I64; omega) (SliceOf.nil_ _ _ _) (by unfold maxLen; decide)) OkNs.nil)))))⟩
     have hC652 := Past_v_ G638 nt644 (by first | omega | (simp only [List.length_cons, List.length_nil]; omega)) 0
     refine Pl.MSCT Z rfl rfl rfl rfl rfl Tryz.call15 (hC652) rfl ?_
     rintro e w653 ⟨A645, c646, L647, rfl, hL648, hS649, hN650, o651⟩; refine ⟨_, rfl, ⟨fun _ => (Only.trans' (Only.trans' (Only.trans' (Only.trans' (Only.trans' (Only.trans' o599 o607) o611) o622) o629) o637) o651), (Only.trans (Only.trans (Only.trans (Only.trans (Only.trans (Only.trans (Only.trans (Only.refl NoF w576) o599 (fun _ h => h.elim)) o607 (fun _ h => h.elim)) o611 (fun _ h => h.elim)) o622 (fun _ h => h.elim)) o629 (fun _ h => h.elim)) o637 (fun _ h => h.elim)) o651 (fun _ h => h.elim))⟩, ?_⟩
     clear Z az; intro az Z
     have nt654 : NtV w653 (.slice A645 (L647.length) c646) L647 := ⟨SliceOf.pl hS649, OkNs.pl hN650⟩
     have hm655 : L647.length ≤ 1000000 := (pst_lim hL648)
     obtain ⟨A656, w657, hw, hA, r658, o659⟩ := Row.made (w := w653) KN0 (e := 43) ([mA, mB] : List NM) (by simp only [List.length_cons, List.length_nil]; unfold maxLen; omega)
     refine Pl.MDT Z rfl rfl (r_bs (z := .agg #[.int .i64 (0), .int .i64 (0), .int .i64 (0), .slice none (0) 0, strV ([])]) (size := 5) (vs := [(0, .agg #[.int .i64 (0), .int .i64 (0), .int .i64 (5), .slice none (0) 0, strV ([])]), (1, .agg #[.int .i64 (0), .int .i64 (1), .int .i64 (5), .slice none (0) 0, strV ([])])]) (cs := List.flatMap KN0.cells [mA, mB]) Tryz.underlying22 Tryz.sizeOf43 Tryz.zeroValue43 rfl (Fr.evalps Z rfl) (by kernel_rfl)) rfl rfl ?_ ?_
     · rw [← hw]; exact ⟨fun _ => (Only.trans' (Only.trans' (Only.trans' (Only.trans' (Only.trans' (Only.trans' (Only.trans' o599 o607) o611) o622) o629) o637) o651) o659), (Only.trans (Only.trans (Only.trans (Only.trans (Only.trans (Only.trans (Only.trans (Only.trans (Only.refl NoF w576) o599 (fun _ h => h.elim)) o607 (fun _ h => h.elim)) o611 (fun _ h => h.elim)) o622 (fun _ h => h.elim)) o629 (fun _ h => h.elim)) o637 (fun _ h => h.elim)) o651 (fun _ h => h.elim)) o659 (fun _ h => h.elim))⟩
     rw [← hw, ← hA]; clear Z az; intro az Z
     clear hw hA
     have ok660 : ∀ zq ∈ ([mA, mB] : List NM), KN0.ok zq := by intro zq hx; simp only [List.mem_cons, List.not_mem_nil, or_false] at hx; rcases hx with rfl | rfl <;> first | exact trivial | exact trivial
     have nt661 : NtV w657 (.slice A656 (List.length ([mA, mB] : List NM)) 2) [mA, mB] := ⟨SliceOf.pl (Row.own KN0 r658 (fun _ _ => trivial)), (ok_cons (okN_mk (by unfold I64; omega) (SliceOf.nil_ _ _ _) (by unfold maxLen; decide)) (ok_cons (okN_mk (by unfold I64; omega) (SliceOf.nil_ _ _ _) (by unfold maxLen; decide)) OkNs.nil))⟩
     refine Pl.MSGV (v := .bool (true)) Z rfl rfl gd_t rfl rfl (fun hb => rfl) Tryz.call9 (fun hb => fix_eq (congrArg Value.bool (decide_eq_true (hL648.trans sm_8))) (rSameChain_v (NtV.notes (NtV.k nt654 o659)) (NtV.notes nt661))) rfl (fun w' o' => ⟨fun _ => (Only.trans' (Only.trans' (Only.trans' (Only.trans' (Only.trans' (Only.trans' (Only.trans' (Only.trans' o599 o607) o611) o622) o629) o637) o651) o659) o'), (Only.trans (Only.trans (Only.trans (Only.trans (Only.trans (Only.trans (Only.trans (Only.trans (Only.trans (Only.refl NoF w576) o599 (fun _ h => h.elim)) o607 (fun _ h => h.elim)) o611 (fun _ h => h.elim)) o622 (fun _ h => h.elim)) o629 (fun _ h => h.elim)) o637 (fun _ h => h.elim)) o651 (fun _ h => h.elim)) o659 (fun _ h => h.elim)) o' (fun _ h => h.elim))⟩) fun w662 o663 => ?_; clear Z az; intro az Z
     refine Pl.MSP (b := true) (by kernel_rfl) (fun W oW => r_pick Z rfl rfl rfl) Z rfl rfl ?_; clear Z az; intro az Z
     refine Pl.MSP (b := true) (by kernel_rfl) (fun W oW => r_as Z rfl) Z rfl rfl ?_; clear Z az; intro az Z
     refine wpPl_nil ?_
     have O664 : Only NoF w574 w662 := (Only.trans' (Only.trans' (Only.trans' (Only.trans' (Only.trans' (Only.trans' (Only.trans' (Only.trans' (Only.trans' o577 o599) o607) o611) o622) o629) o637) o651) o659) o663)
     exact ⟨Z.cut ⟨rfl, rfl, rfl, rfl, rfl, rfl, rfl, rfl, trivial⟩, O664⟩
    ·
     obtain ⟨A665, w666, hw, hA, r667, o668⟩ := Row.made (w := w636) KN0 (e := 43) ([mA, mB] : List NM) (by simp only [List.length_cons, List.length_nil]; unfold maxLen; omega)
     refine Pl.MDT Z rfl rfl (r_bs (z := .agg #[.int .i64 (0), .int .i64 (0), .int .i64 (0), .slice none (0) 0, strV ([])]) (size := 5) (vs := [(0, .agg #[.int .i64 (0), .int .i64 (0), .int .i64 (5), .slice none (0) 0, strV ([])]), (1, .agg #[.int .i64 (0), .int .i64 (1), .int .i64 (5), .slice none (0) 0, strV ([])])]) (cs := List.flatMap KN0.cells [mA, mB]) Tryz.underlying22 Tryz.sizeOf43 Tryz.zeroValue43 rfl (Fr.evalps Z rfl) (by kernel_rfl)) rfl rfl ?_ ?_
     · rw [← hw]; exact ⟨fun _ => (Only.trans' (Only.trans' (Only.trans' (Only.trans' (Only.trans' (Only.trans' o599 o607) o611) o622) o629) o637) o668), (Only.trans (Only.trans (Only.trans (Only.trans (Only.trans (Only.trans (Only.trans (Only.refl NoF w576) o599 (fun _ h => h.elim)) o607 (fun _ h => h.elim)) o611 (fun _ h => h.elim)) o622 (fun _ h => h.elim)) o629 (fun _ h => h.elim)) o637 (fun _ h => h.elim)) o668 (fun _ h => h.elim))⟩
     rw [← hw, ← hA]; clear Z az; intro az Z
     clear hw hA
     have ok669 : ∀ zq ∈ ([mA, mB] : List NM), KN0.ok zq := by intro zq hx; simp only [List.mem_cons, List.not_mem_nil, or_false] at hx; rcases hx with rfl | rfl <;> first | exact trivial | exact trivial
     have O671 : Only NoF w w666 := (Only.trans' (Only.trans' (Only.trans' (Only.trans' O613 o622) o629) o637) o668)
     have G670 := Gr.k hG O671
     have O672 : Only NoF w576 w666 := (Only.trans' (Only.trans' (Only.trans' (Only.trans' O614 o622) o629) o637) o668)
     have h673 := (SliceOf.kp h589 O672 (fun _ _ h => h) (fun _ _ _ _ h => h))
     have h674 := SliceOf.pl h673
     have r675 := (ow_k (ow_k (ow_k (ow_k (ow_k (ow_k (ow_k (ow_k (ow_k (ow_k (ow_k (ow_k (ow_k r78 o88) o92) o98) o102) o575) o577) o599) o607) o611) o622) o629) o637) o668)
     have nt676 : NtV w666 (.slice A76 (List.length ([(mD A51), mB, mA, mC, mA] : List NM)) 5) [(mD A51), mB, mA, mC, mA] := ⟨SliceOf.pl (Row.own KN0 r675 (fun _ _ => trivial)), (ok_cons (okN_mk (by unfold I64; omega) h674 (by unfold maxLen; decide)) (ok_cons (okN_mk (by unfold I64; omega) (SliceOf.nil_ _ _ _) (by unfold maxLen; decide)) (ok_cons (okN_mk (by unfold I64; omega) (SliceOf.nil_ _ _ _) (by unfold maxLen; decide)) (ok_cons (okN_mk (by unfold I64; omega) (SliceOf.nil_ _ _ _) (by unfold maxLen; decide)) (ok_cons (okN_mk (by unfold I64; omega) (SliceOf.nil_ _ _ _) (by unfold maxLen; decide)) OkNs.nil)))))⟩
     have hC684 := Past_v_ G670 nt676 (by first | omega | (simp only [List.length_cons, List.length_nil]; omega)) 0
     refine Pl.MSCT Z rfl rfl rfl rfl rfl Tryz.call15 (hC684) rfl ?_
     rintro e w685 ⟨A677, c678, L679, rfl, hL680, hS681, hN682, o683⟩; refine ⟨_, rfl, ⟨fun _ => (Only.trans' (Only.trans' (Only.trans' (Only.trans' (Only.trans' (Only.trans' (Only.trans' o599 o607) o611) o622) o629) o637) o668) o683), (Only.trans (Only.trans (Only.trans (Only.trans (Only.trans (Only.trans (Only.trans (Only.trans (Only.refl NoF w576) o599 (fun _ h => h.elim)) o607 (fun _ h => h.elim)) o611 (fun _ h => h.elim)) o622 (fun _ h => h.elim)) o629 (fun _ h => h.elim)) o637 (fun _ h => h.elim)) o668 (fun _ h => h.elim)) o683 (fun _ h => h.elim))⟩, ?_⟩
     clear Z az; intro az Z
     have nt686 : NtV w685 (.slice A677 (L679.length) c678) L679 := ⟨SliceOf.pl hS681, OkNs.pl hN682⟩
     have hm687 : L679.length ≤ 1000000 := (pst_lim hL680)
     have r688 := (ow_k r667 o683)
     have nt689 : NtV w685 (.slice A665 (List.length ([mA, mB] : List NM)) 2) [mA, mB] := ⟨SliceOf.pl (Row.own KN0 r688 (fun _ _ => trivial)), (ok_cons (okN_mk (by unfold I64; omega) (SliceOf.nil_ _ _ _) (by unfold maxLen; decide)) (ok_cons (okN_mk (by unfold I64; omega) (SliceOf.nil_ _ _ _) (by unfold maxLen; decide)) OkNs.nil))⟩
     refine Pl.MSGV (v := .bool (true)) Z rfl rfl gd_t rfl rfl (fun hb => rfl) Tryz.call9 (fun hb => fix_eq (congrArg Value.bool (decide_eq_true (hL680.trans sm_8))) (rSameChain_v (NtV.notes nt686) (NtV.notes nt689))) rfl (fun w' o' => ⟨fun _ => (Only.trans' (Only.trans' (Only.trans' (Only.trans' (Only.trans' (Only.trans' (Only.trans' (Only.trans' o599 o607) o611) o622) o629) o637) o668) o683) o'), (Only.trans (Only.trans (Only.trans (Only.trans (Only.trans (Only.trans (Only.trans (Only.trans (Only.trans (Only.refl NoF w576) o599 (fun _ h => h.elim)) o607 (fun _ h => h.elim)) o611 (fun _ h => h.elim)) o622 (fun _ h => h.elim)) o629 (fun _ h => h.elim)) o637 (fun _ h => h.elim)) o668 (fun _ h => h.elim)) o683 (fun _ h => h.elim)) o' (fun _ h => h.elim))⟩) fun w690 o691 => ?_; clear Z az; intro az Z
     refine Pl.MSP (b := true) (by kernel_rfl) (fun W oW => r_pick Z rfl rfl rfl) Z rfl rfl ?_; clear Z az; intro az Z
     refine Pl.MSP (b := true) (by kernel_rfl) (fun W oW => r_as Z rfl) Z rfl rfl ?_; clear Z az; intro az Z
     refine wpPl_nil ?_
     have O692 : Only NoF w574 w690 := (Only.trans' (Only.trans' (Only.trans' (Only.trans' (Only.trans' (Only.trans' (Only.trans' (Only.trans' (Only.trans' o577 o599) o607) o611) o622) o629) o637) o668) o683) o691)
     exact ⟨Z.cut ⟨rfl, rfl, rfl, rfl, rfl, rfl, rfl, rfl, trivial⟩, O692⟩
   ·
    obtain ⟨A693, w694, hw, hA, r695, o696⟩ := Row.made (w := w610) KRef (e := 59) ([(⟨0, 0⟩ : RM)] : List RM) (by simp only [List.length_cons, List.length_nil]; unfold maxLen; omega)
    refine Pl.MDT Z rfl rfl (r_bs (z := .agg #[.int .i64 (0), .int .i64 (0)]) (size := 2) (vs := [(0, .agg #[.int .i64 (0), .int .i64 (0)])]) (cs := List.flatMap KRef.cells [(⟨0, 0⟩ : RM)]) Tryz.underlying35 Tryz.sizeOf59 Tryz.zeroValue59 rfl (Fr.evalps Z rfl) (by kernel_rfl)) rfl rfl ?_ ?_
    · rw [← hw]; exact ⟨fun _ => (Only.trans' (Only.trans' (Only.trans' o599 o607) o611) o696), (Only.trans (Only.trans (Only.trans (Only.trans (Only.refl NoF w576) o599 (fun _ h => h.elim)) o607 (fun _ h => h.elim)) o611 (fun _ h => h.elim)) o696 (fun _ h => h.elim))⟩
    rw [← hw, ← hA]; clear Z az; intro az Z
    clear hw hA
    have ok697 : ∀ zq ∈ ([(⟨0, 0⟩ : RM)] : List RM), KRef.ok zq := by intro zq hx; simp only [List.mem_cons, List.not_mem_nil, or_false] at hx; rcases hx with rfl <;> first | exact (show I64 (0) ∧ I64 (0) from ⟨by unfold I64; omega, by unfold I64; omega⟩)
    have O699 : Only NoF w w694 := (Only.trans' (Only.trans' (Only.trans' (Only.trans' O585 o599) o607) o611) o696)
    have G698 := Gr.k hG O699
    have O700 : Only NoF w576 w694 := (Only.trans' (Only.trans' (Only.trans' o599 o607) o611) o696)
    have h701 := (SliceOf.kp h589 O700 (fun _ _ h => h) (fun _ _ _ _ h => h))
    have h702 := SliceOf.pl h701
    have r703 := (ow_k (ow_k (ow_k (ow_k r591 o599) o607) o611) o696)
    have nt704 : NtV w694 (.slice A85 (List.length ([mB, mC, (mD A51)] : List NM)) 3) [mB, mC, (mD A51)] := ⟨SliceOf.pl (Row.own KN0 r703 (fun _ _ => trivial)), (ok_cons (okN_mk (by unfold I64; omega) (SliceOf.nil_ _ _ _) (by unfold maxLen; decide)) (ok_cons (okN_mk (by unfold I64; omega) (SliceOf.nil_ _ _ _) (by unfold maxLen; decide)) (ok_cons (okN_mk (by unfold I64; omega) h702 (by unfold maxLen; decide)) OkNs.nil)))⟩
    have hC710 := Missing_v_ G698 nt704 (by first | omega | (simp only [List.length_cons, List.length_nil]; omega))
    refine Pl.MSCT Z rfl rfl rfl rfl rfl Tryz.call22 (hC710) rfl ?_
    rintro e w711 ⟨A705, c706, rfl, r707, ok709, o708⟩; refine ⟨_, rfl, ⟨fun _ => (Only.trans' (Only.trans' (Only.trans' (Only.trans' o599 o607) o611) o696) o708), (Only.trans (Only.trans (Only.trans (Only.trans (Only.trans (Only.refl NoF w576) o599 (fun _ h => h.elim)) o607 (fun _ h => h.elim)) o611 (fun _ h => h.elim)) o696 (fun _ h => h.elim)) o708 (fun _ h => h.elim))⟩, ?_⟩
    clear Z az; intro az Z
    have h712 := Row.own KRef r707 ok709
    have h713 := SliceOf.pl h712
    have h714 := Row.own KRef r695 ok697
    have h715 := (SliceOf.kp h714 o708 (fun _ _ h => h) (fun _ _ _ _ h => h))
    have h716 := SliceOf.pl h715
    refine Pl.MSGV (v := .bool (true)) Z rfl rfl gd_t rfl rfl (fun hb => rfl) Tryz.call19 (fun hb => fix_eq (congrArg Value.bool (decide_eq_true sm_7)) (rSameRefs_v_ h713 h716)) rfl (fun w' o' => ⟨fun _ => (Only.trans' (Only.trans' (Only.trans' (Only.trans' (Only.trans' o599 o607) o611) o696) o708) o'), (Only.trans (Only.trans (Only.trans (Only.trans (Only.trans (Only.trans (Only.refl NoF w576) o599 (fun _ h => h.elim)) o607 (fun _ h => h.elim)) o611 (fun _ h => h.elim)) o696 (fun _ h => h.elim)) o708 (fun _ h => h.elim)) o' (fun _ h => h.elim))⟩) fun w717 o718 => ?_; clear Z az; intro az Z
    refine Pl.MSP (b := true) (by kernel_rfl) (fun W oW => r_pick Z rfl rfl rfl) Z rfl rfl ?_; clear Z az; intro az Z
    refine Pl.MSP (b := true) (by kernel_rfl) (fun W oW => r_mv Z rfl) Z rfl rfl ?_; clear Z az; intro az Z
    refine Pl.MSPT (b := true) (by kernel_rfl) Z rfl rfl (fun W oW => r_mv Z rfl) rfl rfl ?_; clear Z az; intro az Z
    refine Pl.MSPT (b := true) (by kernel_rfl) Z rfl rfl (fun W oW => r_ldA Tryz.isAgg43 Tryz.sizeOf43 Z rfl (Blk.ca (Blk.k B579 oW)) rfl) rfl rfl ?_; clear Z az; intro az Z
    refine Pl.MSPT (b := true) (by kernel_rfl) Z rfl rfl (fun W oW => r_ldA Tryz.isAgg43 Tryz.sizeOf43 Z rfl (Blk.ca (Blk.k B580 oW)) rfl) rfl rfl ?_; clear Z az; intro az Z
    refine wpPl_fork ?_ ?_
    ·
     have O720 : Only NoF w w717 := (Only.trans' (Only.trans' O699 o708) o718)
     have G719 := Gr.k hG O720
     have O721 : Only NoF w576 w717 := (Only.trans' (Only.trans' O700 o708) o718)
     have h722 := (SliceOf.kp h589 O721 (fun _ _ h => h) (fun _ _ _ _ h => h))
     have h723 := SliceOf.pl h722
     have r724 := (ow_k (ow_k (ow_k (ow_k (ow_k (ow_k (ow_k (ow_k (ow_k (ow_k (ow_k (ow_k r78 o88) o92) o98) o102) o575) o577) o599) o607) o611) o696) o708) o718)
     have nt725 : NtV w717 (.slice A76 (List.length ([(mD A51), mB, mA, mC, mA] : List NM)) 5) [(mD A51), mB, mA, mC, mA] := ⟨SliceOf.pl (Row.own KN0 r724 (fun _ _ => trivial)), (ok_cons (okN_mk (by unfold I64; omega) h723 (by unfold maxLen; decide)) (ok_cons (okN_mk (by unfold I64; omega) (SliceOf.nil_ _ _ _) (by unfold maxLen; decide)) (ok_cons (okN_mk (by unfold I64; omega) (SliceOf.nil_ _ _ _) (by unfold maxLen; decide)) (ok_cons (okN_mk (by unfold I64; omega) (SliceOf.nil_ _ _ _) (by unfold maxLen; decide)) (ok_cons (okN_mk (by unfold I64; omega) (SliceOf.nil_ _ _ _) (by unfold maxLen; decide)) OkNs.nil)))))⟩
     have hC733 := Past_v_ G719 nt725 (by first | omega | (simp only [List.length_cons, List.length_nil]; omega)) 0
     refine Pl.MSCT Z rfl rfl rfl rfl rfl Tryz.call15 (hC733) rfl ?_
     rintro e w734 ⟨A726, c727, L728, rfl, hL729, hS730, hN731, o732⟩; refine ⟨_, rfl, ⟨fun _ => (Only.trans' (Only.trans' (Only.trans' (Only.trans' (Only.trans' (Only.trans' o599 o607) o611) o696) o708) o718) o732), (Only.trans (Only.trans (Only.trans (Only.trans (Only.trans (Only.trans (Only.trans (Only.refl NoF w576) o599 (fun _ h => h.elim)) o607 (fun _ h => h.elim)) o611 (fun _ h => h.elim)) o696 (fun _ h => h.elim)) o708 (fun _ h => h.elim)) o718 (fun _ h => h.elim)) o732 (fun _ h => h.elim))⟩, ?_⟩
     clear Z az; intro az Z
     have nt735 : NtV w734 (.slice A726 (L728.length) c727) L728 := ⟨SliceOf.pl hS730, OkNs.pl hN731⟩
     have hm736 : L728.length ≤ 1000000 := (pst_lim hL729)
     obtain ⟨A737, w738, hw, hA, r739, o740⟩ := Row.made (w := w734) KN0 (e := 43) ([mA, mB] : List NM) (by simp only [List.length_cons, List.length_nil]; unfold maxLen; omega)
     refine Pl.MDT Z rfl rfl (r_bs (z := .agg #[.int .i64 (0), .int .i64 (0), .int .i64 (0), .slice none (0) 0, strV ([])]) (size := 5) (vs := [(0, .agg #[.int .i64 (0), .int .i64 (0), .int .i64 (5), .slice none (0) 0, strV ([])]), (1, .agg #[.int .i64 (0), .int .i64 (1), .int .i64 (5), .slice none (0) 0, strV ([])])]) (cs := List.flatMap KN0.cells [mA, mB]) Tryz.underlying22 Tryz.sizeOf43 Tryz.zeroValue43 rfl (Fr.evalps Z rfl) (by kernel_rfl)) rfl rfl ?_ ?_
     · rw [← hw]; exact ⟨fun _ => (Only.trans' (Only.trans' (Only.trans' (Only.trans' (Only.trans' (Only.trans' (Only.trans' o599 o607) o611) o696) o708) o718) o732) o740), (Only.trans (Only.trans (Only.trans (Only.trans (Only.trans (Only.trans (Only.trans (Only.trans (Only.refl NoF w576) o599 (fun _ h => h.elim)) o607 (fun _ h => h.elim)) o611 (fun _ h => h.elim)) o696 (fun _ h => h.elim)) o708 (fun _ h => h.elim)) o718 (fun _ h => h.elim)) o732 (fun _ h => h.elim)) o740 (fun _ h => h.elim))⟩
     rw [← hw, ← hA]; clear Z az; intro az Z
     clear hw hA
     have ok741 : ∀ zq ∈ ([mA, mB] : List NM), KN0.ok zq := by intro zq hx; simp only [List.mem_cons, List.not_mem_nil, or_false] at hx; rcases hx with rfl | rfl <;> first | exact trivial | exact trivial
     have nt742 : NtV w738 (.slice A737 (List.length ([mA, mB] : List NM)) 2) [mA, mB] := ⟨SliceOf.pl (Row.own KN0 r739 (fun _ _ => trivial)), (ok_cons (okN_mk (by unfold I64; omega) (SliceOf.nil_ _ _ _) (by unfold maxLen; decide)) (ok_cons (okN_mk (by unfold I64; omega) (SliceOf.nil_ _ _ _) (by unfold maxLen; decide)) OkNs.nil))⟩
     refine Pl.MSGV (v := .bool (true)) Z rfl rfl gd_t rfl rfl (fun hb => rfl) Tryz.call9 (fun hb => fix_eq (congrArg Value.bool (decide_eq_true (hL729.trans sm_8))) (rSameChain_v (NtV.notes (NtV.k nt735 o740)) (NtV.notes nt742))) rfl (fun w' o' => ⟨fun _ => (Only.trans' (Only.trans' (Only.trans' (Only.trans' (Only.trans' (Only.trans' (Only.trans' (Only.trans' o599 o607) o611) o696) o708) o718) o732) o740) o'), (Only.trans (Only.trans (Only.trans (Only.trans (Only.trans (Only.trans (Only.trans (Only.trans (Only.trans (Only.refl NoF w576) o599 (fun _ h => h.elim)) o607 (fun _ h => h.elim)) o611 (fun _ h => h.elim)) o696 (fun _ h => h.elim)) o708 (fun _ h => h.elim)) o718 (fun _ h => h.elim)) o732 (fun _ h => h.elim)) o740 (fun _ h => h.elim)) o' (fun _ h => h.elim))⟩) fun w743 o744 => ?_; clear Z az; intro az Z
     refine Pl.MSP (b := true) (by kernel_rfl) (fun W oW => r_pick Z rfl rfl rfl) Z rfl rfl ?_; clear Z az; intro az Z
     refine Pl.MSP (b := true) (by kernel_rfl) (fun W oW => r_as Z rfl) Z rfl rfl ?_; clear Z az; intro az Z
     refine wpPl_nil ?_
     have O745 : Only NoF w574 w743 := (Only.trans' (Only.trans' (Only.trans' (Only.trans' (Only.trans' (Only.trans' (Only.trans' (Only.trans' (Only.trans' o577 o599) o607) o611) o696) o708) o718) o732) o740) o744)
     exact ⟨Z.cut ⟨rfl, rfl, rfl, rfl, rfl, rfl, rfl, rfl, trivial⟩, O745⟩
    ·
     obtain ⟨A746, w747, hw, hA, r748, o749⟩ := Row.made (w := w717) KN0 (e := 43) ([mA, mB] : List NM) (by simp only [List.length_cons, List.length_nil]; unfold maxLen; omega)
     refine Pl.MDT Z rfl rfl (r_bs (z := .agg #[.int .i64 (0), .int .i64 (0), .int .i64 (0), .slice none (0) 0, strV ([])]) (size := 5) (vs := [(0, .agg #[.int .i64 (0), .int .i64 (0), .int .i64 (5), .slice none (0) 0, strV ([])]), (1, .agg #[.int .i64 (0), .int .i64 (1), .int .i64 (5), .slice none (0) 0, strV ([])])]) (cs := List.flatMap KN0.cells [mA, mB]) Tryz.underlying22 Tryz.sizeOf43 Tryz.zeroValue43 rfl (Fr.evalps Z rfl) (by kernel_rfl)) rfl rfl ?_ ?_
     · rw [← hw]; exact ⟨fun _ => (Only.trans' (Only.trans' (Only.trans' (Only.trans' (Only.trans' (Only.trans' o599 o607) o611) o696) o708) o718) o749), (Only.trans (Only.trans (Only.trans (Only.trans (Only.trans (Only.trans (Only.trans (Only.refl NoF w576) o599 (fun _ h => h.elim)) o607 (fun _ h => h.elim)) o611 (fun _ h => h.elim)) o696 (fun _ h => h.elim)) o708 (fun _ h => h.elim)) o718 (fun _ h => h.elim)) o749 (fun _ h => h.elim))⟩
     rw [← hw, ← hA]; clear Z az; intro az Z
     clear hw hA
     have ok750 : ∀ zq ∈ ([mA, mB] : List NM), KN0.ok zq := by intro zq hx; simp only [List.mem_cons, List.not_mem_nil, or_false] at hx; rcases hx with rfl | rfl <;> first | exact trivial | exact trivial
     have O752 : Only NoF w w747 := (Only.trans' (Only.trans' (Only.trans' O699 o708) o718) o749)
     have G751 := Gr.k hG O752
     have O753 : Only NoF w576 w747 := (Only.trans' (Only.trans' (Only.trans' O700 o708) o718) o749)
     have h754 := (SliceOf.kp h589 O753 (fun _ _ h => h) (fun _ _ _ _ h => h))
     have h755 := SliceOf.pl h754
     have r756 := (ow_k (ow_k (ow_k (ow_k (ow_k (ow_k (ow_k (ow_k (ow_k (ow_k (ow_k (ow_k (ow_k r78 o88) o92) o98) o102) o575) o577) o599) o607) o611) o696) o708) o718) o749)
     have nt757 : NtV w747 (.slice A76 (List.length ([(mD A51), mB, mA, mC, mA] : List NM)) 5) [(mD A51), mB, mA, mC, mA] := ⟨SliceOf.pl (Row.own KN0 r756 (fun _ _ => trivial)), (ok_cons (okN_mk (by unfold I64; omega) h755 (by unfold maxLen; decide)) (ok_cons (okN_mk (by unfold I64; omega) (SliceOf.nil_ _ _ _) (by unfold maxLen; decide)) (ok_cons (okN_mk (by unfold I64; omega) (SliceOf.nil_ _ _ _) (by unfold maxLen; decide)) (ok_cons (okN_mk (by unfold I64; omega) (SliceOf.nil_ _ _ _) (by unfold maxLen; decide)) (ok_cons (okN_mk (by unfold I64; omega) (SliceOf.nil_ _ _ _) (by unfold maxLen; decide)) OkNs.nil)))))⟩
     have hC765 := Past_v_ G751 nt757 (by first | omega | (simp only [List.length_cons, List.length_nil]; omega)) 0
     refine Pl.MSCT Z rfl rfl rfl rfl rfl Tryz.call15 (hC765) rfl ?_
     rintro e w766 ⟨A758, c759, L760, rfl, hL761, hS762, hN763, o764⟩; refine ⟨_, rfl, ⟨fun _ => (Only.trans' (Only.trans' (Only.trans' (Only.trans' (Only.trans' (Only.trans' (Only.trans' o599 o607) o611) o696) o708) o718) o749) o764), (Only.trans (Only.trans (Only.trans (Only.trans (Only.trans (Only.trans (Only.trans (Only.trans (Only.refl NoF w576) o599 (fun _ h => h.elim)) o607 (fun _ h => h.elim)) o611 (fun _ h => h.elim)) o696 (fun _ h => h.elim)) o708 (fun _ h => h.elim)) o718 (fun _ h => h.elim)) o749 (fun _ h => h.elim)) o764 (fun _ h => h.elim))⟩, ?_⟩
     clear Z az; intro az Z
     have nt767 : NtV w766 (.slice A758 (L760.length) c759) L760 := ⟨SliceOf.pl hS762, OkNs.pl hN763⟩
     have hm768 : L760.length ≤ 1000000 := (pst_lim hL761)
     have r769 := (ow_k r748 o764)
     have nt770 : NtV w766 (.slice A746 (List.length ([mA, mB] : List NM)) 2) [mA, mB] := ⟨SliceOf.pl (Row.own KN0 r769 (fun _ _ => trivial)), (ok_cons (okN_mk (by unfold I64; omega) (SliceOf.nil_ _ _ _) (by unfold maxLen; decide)) (ok_cons (okN_mk (by unfold I64; omega) (SliceOf.nil_ _ _ _) (by unfold maxLen; decide)) OkNs.nil))⟩
     refine Pl.MSGV (v := .bool (true)) Z rfl rfl gd_t rfl rfl (fun hb => rfl) Tryz.call9 (fun hb => fix_eq (congrArg Value.bool (decide_eq_true (hL761.trans sm_8))) (rSameChain_v (NtV.notes nt767) (NtV.notes nt770))) rfl (fun w' o' => ⟨fun _ => (Only.trans' (Only.trans' (Only.trans' (Only.trans' (Only.trans' (Only.trans' (Only.trans' (Only.trans' o599 o607) o611) o696) o708) o718) o749) o764) o'), (Only.trans (Only.trans (Only.trans (Only.trans (Only.trans (Only.trans (Only.trans (Only.trans (Only.trans (Only.refl NoF w576) o599 (fun _ h => h.elim)) o607 (fun _ h => h.elim)) o611 (fun _ h => h.elim)) o696 (fun _ h => h.elim)) o708 (fun _ h => h.elim)) o718 (fun _ h => h.elim)) o749 (fun _ h => h.elim)) o764 (fun _ h => h.elim)) o' (fun _ h => h.elim))⟩) fun w771 o772 => ?_; clear Z az; intro az Z
     refine Pl.MSP (b := true) (by kernel_rfl) (fun W oW => r_pick Z rfl rfl rfl) Z rfl rfl ?_; clear Z az; intro az Z
     refine Pl.MSP (b := true) (by kernel_rfl) (fun W oW => r_as Z rfl) Z rfl rfl ?_; clear Z az; intro az Z
     refine wpPl_nil ?_
     have O773 : Only NoF w574 w771 := (Only.trans' (Only.trans' (Only.trans' (Only.trans' (Only.trans' (Only.trans' (Only.trans' (Only.trans' (Only.trans' o577 o599) o607) o611) o696) o708) o718) o749) o764) o772)
     exact ⟨Z.cut ⟨rfl, rfl, rfl, rfl, rfl, rfl, rfl, rfl, trivial⟩, O773⟩
  ·
   obtain ⟨A774, w775, hw, hA, r776, o777⟩ := Row.made (w := w576) KN0 (e := 43) ([mC] : List NM) (by simp only [List.length_cons, List.length_nil]; unfold maxLen; omega)
   refine Pl.MD (r_bs (z := .agg #[.int .i64 (0), .int .i64 (0), .int .i64 (0), .slice none (0) 0, strV ([])]) (size := 5) (vs := [(0, .agg #[.int .i64 (1), .int .i64 (0), .int .i64 (4), .slice none (0) 0, strV ([])])]) (cs := List.flatMap KN0.cells [mC]) Tryz.underlying22 Tryz.sizeOf43 Tryz.zeroValue43 rfl (Fr.evalps Z rfl) (by kernel_rfl)) Z rfl rfl ?_ ?_
   · rw [← hw]; exact ⟨fun _ => o777, (Only.trans (Only.refl NoF w576) o777 (fun _ h => h.elim))⟩
   rw [← hw, ← hA]; clear Z az; intro az Z
   clear hw hA
   have ok778 : ∀ zq ∈ ([mC] : List NM), KN0.ok zq := by intro zq hx; simp only [List.mem_cons, List.not_mem_nil, or_false] at hx; rcases hx with rfl <;> first | exact trivial
   have O780 : Only NoF w w15 := (Only.trans' (o_sg (Only.trans' o4 o7) s12 (size_only o4) (oneF_ge hg9)) o16)
   have O781 : Only NoF w w27 := (Only.trans' (o_sg (Only.trans' O780 o19) s24 (size_only O780) (oneF_ge hg21)) o28)
   have O782 : Only NoF w w39 := (Only.trans' (o_sg (Only.trans' O781 o31) s36 (size_only O781) (oneF_ge hg33)) o40)
   have O783 : Only NoF w w775 := (Only.trans' (Only.trans' (Only.trans' (Only.trans' (Only.trans' (Only.trans' (Only.trans' (Only.trans' (o_sg (Only.trans' (o_sg (Only.trans' (Only.trans' (o_sg (Only.trans' (Only.trans' (o_sg (Only.trans' (Only.trans' (o_sg (Only.trans' o4 o7) s12 (size_only o4) (oneF_ge hg9)) o16) o19) s24 (size_only O780) (oneF_ge hg21)) o28) o31) s36 (size_only O781) (oneF_ge hg33)) o40) o43) s48 (size_only O782) (oneF_ge hg45)) o54) s58 (size_only O782) (oneF_ge hg45)) o79) o88) o92) o98) o102) o575) o577) o777)
   have G779 := Gr.k hG O783
   have h784 := Row.own KRef r53 ok55
   have O785 := (Only.trans (Only.refl (fun _ => True) w42) s48 (fun _ _ => .inl trivial))
   have O786 : Only NoF w57 w775 := (Only.trans' (Only.trans' (Only.trans' (Only.trans' (Only.trans' (Only.trans' (Only.trans' o79 o88) o92) o98) o102) o575) o577) o777)
   have h787 := (SliceOf.kp (SliceOf.kp h784 s58 (ge_F (oneF_lt hl46) (size_only O785)) (fun _ _ _ _ h => h)) O786 (fun _ _ h => h) (fun _ _ _ _ h => h))
   have h788 := SliceOf.pl h787
   have r789 := (ow_k (ow_k (ow_k (ow_k (ow_k (ow_k r87 o92) o98) o102) o575) o577) o777)
   have nt790 : NtV w775 (.slice A85 (List.length ([mB, mC, (mD A51)] : List NM)) 3) [mB, mC, (mD A51)] := ⟨SliceOf.pl (Row.own KN0 r789 (fun _ _ => trivial)), (ok_cons (okN_mk (by unfold I64; omega) (SliceOf.nil_ _ _ _) (by unfold maxLen; decide)) (ok_cons (okN_mk (by unfold I64; omega) (SliceOf.nil_ _ _ _) (by unfold maxLen; decide)) (ok_cons (okN_mk (by unfold I64; omega) h788 (by unfold maxLen; decide)) OkNs.nil)))⟩
   have hC798 := Order_v_ G779 nt790 (by first | omega | (simp only [List.length_cons, List.length_nil]; omega))
   refine Pl.MSC Z rfl rfl rfl Tryz.call17 (hC798) rfl ?_
   rintro e w799 ⟨A791, c792, L793, rfl, hL794, hS795, hN796, o797⟩; refine ⟨_, rfl, ⟨fun _ => (Only.trans' o777 o797), (Only.trans (Only.trans (Only.refl NoF w576) o777 (fun _ h => h.elim)) o797 (fun _ h => h.elim))⟩, ?_⟩
   clear Z az; intro az Z
   have nt800 : NtV w799 (.slice A791 (L793.length) c792) L793 := ⟨SliceOf.pl hS795, OkNs.pl hN796⟩
   have hm801 : L793.length ≤ 1000000 := (ord_lim hL794 (by first | omega | (simp only [List.length_cons, List.length_nil]; omega)))
   have r802 := (ow_k r776 o797)
   have nt803 : NtV w799 (.slice A774 (List.length ([mC] : List NM)) 1) [mC] := ⟨SliceOf.pl (Row.own KN0 r802 (fun _ _ => trivial)), (ok_cons (okN_mk (by unfold I64; omega) (SliceOf.nil_ _ _ _) (by unfold maxLen; decide)) OkNs.nil)⟩
   refine Pl.MSV (v := .bool (true)) Z rfl rfl rfl Tryz.call9 (fix_eq (congrArg Value.bool (decide_eq_true (hL794.trans sm_6))) (rSameChain_v (NtV.notes nt800) (NtV.notes nt803))) rfl (fun w' o' => ⟨fun _ => (Only.trans' (Only.trans' o777 o797) o'), (Only.trans (Only.trans (Only.trans (Only.refl NoF w576) o777 (fun _ h => h.elim)) o797 (fun _ h => h.elim)) o' (fun _ h => h.elim))⟩) fun w804 o805 => ?_; clear Z az; intro az Z
   refine Pl.MSP (b := true) (by kernel_rfl) (fun W oW => r_mv Z rfl) Z rfl rfl ?_; clear Z az; intro az Z
   refine Pl.MSPT (b := true) (by kernel_rfl) Z rfl rfl (fun W oW => r_mv Z rfl) rfl rfl ?_; clear Z az; intro az Z
   refine Pl.MSPT (b := true) (by kernel_rfl) Z rfl rfl (fun W oW => r_bd (v := .agg #[.int .i64 (0), .int .i64 (0)]) (build_Ref2 _ _) Z rfl) rfl rfl ?_; clear Z az; intro az Z
   refine wpPl_fork ?_ ?_
   ·
    have O807 : Only NoF w w804 := (Only.trans' (Only.trans' O783 o797) o805)
    have G806 := Gr.k hG O807
    have O808 : Only NoF w775 w804 := (Only.trans' o797 o805)
    have h809 := (SliceOf.kp h787 O808 (fun _ _ h => h) (fun _ _ _ _ h => h))
    have h810 := SliceOf.pl h809
    have r811 := (ow_k (ow_k r789 o797) o805)
    have nt812 : NtV w804 (.slice A85 (List.length ([mB, mC, (mD A51)] : List NM)) 3) [mB, mC, (mD A51)] := ⟨SliceOf.pl (Row.own KN0 r811 (fun _ _ => trivial)), (ok_cons (okN_mk (by unfold I64; omega) (SliceOf.nil_ _ _ _) (by unfold maxLen; decide)) (ok_cons (okN_mk (by unfold I64; omega) (SliceOf.nil_ _ _ _) (by unfold maxLen; decide)) (ok_cons (okN_mk (by unfold I64; omega) h810 (by unfold maxLen; decide)) OkNs.nil)))⟩
    have hC818 := Missing_v_ G806 nt812 (by first | omega | (simp only [List.length_cons, List.length_nil]; omega))
    refine Pl.MSCT Z rfl rfl rfl rfl rfl Tryz.call22 (hC818) rfl ?_
    rintro e w819 ⟨A813, c814, rfl, r815, ok817, o816⟩; refine ⟨_, rfl, ⟨fun _ => (Only.trans' (Only.trans' (Only.trans' o777 o797) o805) o816), (Only.trans (Only.trans (Only.trans (Only.trans (Only.refl NoF w576) o777 (fun _ h => h.elim)) o797 (fun _ h => h.elim)) o805 (fun _ h => h.elim)) o816 (fun _ h => h.elim))⟩, ?_⟩
    clear Z az; intro az Z
    obtain ⟨A820, w821, hw, hA, r822, o823⟩ := Row.made (w := w819) KRef (e := 59) ([(⟨0, 0⟩ : RM)] : List RM) (by simp only [List.length_cons, List.length_nil]; unfold maxLen; omega)
    refine Pl.MDT Z rfl rfl (r_bs (z := .agg #[.int .i64 (0), .int .i64 (0)]) (size := 2) (vs := [(0, .agg #[.int .i64 (0), .int .i64 (0)])]) (cs := List.flatMap KRef.cells [(⟨0, 0⟩ : RM)]) Tryz.underlying35 Tryz.sizeOf59 Tryz.zeroValue59 rfl (Fr.evalps Z rfl) (by kernel_rfl)) rfl rfl ?_ ?_
    · rw [← hw]; exact ⟨fun _ => (Only.trans' (Only.trans' (Only.trans' (Only.trans' o777 o797) o805) o816) o823), (Only.trans (Only.trans (Only.trans (Only.trans (Only.trans (Only.refl NoF w576) o777 (fun _ h => h.elim)) o797 (fun _ h => h.elim)) o805 (fun _ h => h.elim)) o816 (fun _ h => h.elim)) o823 (fun _ h => h.elim))⟩
    rw [← hw, ← hA]; clear Z az; intro az Z
    clear hw hA
    have ok824 : ∀ zq ∈ ([(⟨0, 0⟩ : RM)] : List RM), KRef.ok zq := by intro zq hx; simp only [List.mem_cons, List.not_mem_nil, or_false] at hx; rcases hx with rfl <;> first | exact (show I64 (0) ∧ I64 (0) from ⟨by unfold I64; omega, by unfold I64; omega⟩)
    have h825 := Row.own KRef r815 ok817
    have h826 := (SliceOf.kp h825 o823 (fun _ _ h => h) (fun _ _ _ _ h => h))
    have h827 := SliceOf.pl h826
    have h828 := Row.own KRef r822 ok824
    have h829 := SliceOf.pl h828
    refine Pl.MSGV (v := .bool (true)) Z rfl rfl gd_t rfl rfl (fun hb => rfl) Tryz.call19 (fun hb => fix_eq (congrArg Value.bool (decide_eq_true sm_7)) (rSameRefs_v_ h827 h829)) rfl (fun w' o' => ⟨fun _ => (Only.trans' (Only.trans' (Only.trans' (Only.trans' (Only.trans' o777 o797) o805) o816) o823) o'), (Only.trans (Only.trans (Only.trans (Only.trans (Only.trans (Only.trans (Only.refl NoF w576) o777 (fun _ h => h.elim)) o797 (fun _ h => h.elim)) o805 (fun _ h => h.elim)) o816 (fun _ h => h.elim)) o823 (fun _ h => h.elim)) o' (fun _ h => h.elim))⟩) fun w830 o831 => ?_; clear Z az; intro az Z
    refine Pl.MSP (b := true) (by kernel_rfl) (fun W oW => r_pick Z rfl rfl rfl) Z rfl rfl ?_; clear Z az; intro az Z
    refine Pl.MSP (b := true) (by kernel_rfl) (fun W oW => r_mv Z rfl) Z rfl rfl ?_; clear Z az; intro az Z
    refine Pl.MSPT (b := true) (by kernel_rfl) Z rfl rfl (fun W oW => r_mv Z rfl) rfl rfl ?_; clear Z az; intro az Z
    refine Pl.MSPT (b := true) (by kernel_rfl) Z rfl rfl (fun W oW => r_ldA Tryz.isAgg43 Tryz.sizeOf43 Z rfl (Blk.ca (Blk.k B579 oW)) rfl) rfl rfl ?_; clear Z az; intro az Z
    refine Pl.MSPT (b := true) (by kernel_rfl) Z rfl rfl (fun W oW => r_ldA Tryz.isAgg43 Tryz.sizeOf43 Z rfl (Blk.ca (Blk.k B580 oW)) rfl) rfl rfl ?_; clear Z az; intro az Z
    refine wpPl_fork ?_ ?_
    ·
     have O833 : Only NoF w w830 := (Only.trans' (Only.trans' (Only.trans' O807 o816) o823) o831)
     have G832 := Gr.k hG O833
     have O834 : Only NoF w775 w830 := (Only.trans' (Only.trans' (Only.trans' O808 o816) o823) o831)
     have h835 := (SliceOf.kp h787 O834 (fun _ _ h => h) (fun _ _ _ _ h => h))
     have h836 := SliceOf.pl h835
     have r837 := (ow_k (ow_k (ow_k (ow_k (ow_k (ow_k (ow_k (ow_k (ow_k (ow_k (ow_k (ow_k r78 o88) o92) o98) o102) o575) o577) o777) o797) o805) o816) o823) o831)
     have nt838 : NtV w830 (.slice A76 (List.length ([(mD A51), mB, mA, mC, mA] : List NM)) 5) [(mD A51), mB, mA, mC, mA] := ⟨SliceOf.pl (Row.own KN0 r837 (fun _ _ => trivial)), (ok_cons (okN_mk (by unfold I64; omega) h836 (by unfold maxLen; decide)) (ok_cons (okN_mk (by unfold I64; omega) (SliceOf.nil_ _ _ _) (by unfold maxLen; decide)) (ok_cons (okN_mk (by unfold I64; omega) (SliceOf.nil_ _ _ _) (by unfold maxLen; decide)) (ok_cons (okN_mk (by unfold I64; omega) (SliceOf.nil_ _ _ _) (by unfold maxLen; decide)) (ok_cons (okN_mk (by unfold I64; omega) (SliceOf.nil_ _ _ _) (by unfold maxLen; decide)) OkNs.nil)))))⟩
     have hC846 := Past_v_ G832 nt838 (by first | omega | (simp only [List.length_cons, List.length_nil]; omega)) 0
     refine Pl.MSCT Z rfl rfl rfl rfl rfl Tryz.call15 (hC846) rfl ?_
     rintro e w847 ⟨A839, c840, L841, rfl, hL842, hS843, hN844, o845⟩; refine ⟨_, rfl, ⟨fun _ => (Only.trans' (Only.trans' (Only.trans' (Only.trans' (Only.trans' (Only.trans' o777 o797) o805) o816) o823) o831) o845), (Only.trans (Only.trans (Only.trans (Only.trans (Only.trans (Only.trans (Only.trans (Only.refl NoF w576) o777 (fun _ h => h.elim)) o797 (fun _ h => h.elim)) o805 (fun _ h => h.elim)) o816 (fun _ h => h.elim)) o823 (fun _ h => h.elim)) o831 (fun _ h => h.elim)) o845 (fun _ h => h.elim))⟩, ?_⟩
     clear Z az; intro az Z
     have nt848 : NtV w847 (.slice A839 (L841.length) c840) L841 := ⟨SliceOf.pl hS843, OkNs.pl hN844⟩
     have hm849 : L841.length ≤ 1000000 := (pst_lim hL842)
     obtain ⟨A850, w851, hw, hA, r852, o853⟩ := Row.made (w := w847) KN0 (e := 43) ([mA, mB] : List NM) (by simp only [List.length_cons, List.length_nil]; unfold maxLen; omega)
     refine Pl.MDT Z rfl rfl (r_bs (z := .agg #[.int .i64 (0), .int .i64 (0), .int .i64 (0), .slice none (0) 0, strV ([])]) (size := 5) (vs := [(0, .agg #[.int .i64 (0), .int .i64 (0), .int .i64 (5), .slice none (0) 0, strV ([])]), (1, .agg #[.int .i64 (0), .int .i64 (1), .int .i64 (5), .slice none (0) 0, strV ([])])]) (cs := List.flatMap KN0.cells [mA, mB]) Tryz.underlying22 Tryz.sizeOf43 Tryz.zeroValue43 rfl (Fr.evalps Z rfl) (by kernel_rfl)) rfl rfl ?_ ?_
     · rw [← hw]; exact ⟨fun _ => (Only.trans' (Only.trans' (Only.trans' (Only.trans' (Only.trans' (Only.trans' (Only.trans' o777 o797) o805) o816) o823) o831) o845) o853), (Only.trans (Only.trans (Only.trans (Only.trans (Only.trans (Only.trans (Only.trans (Only.trans (Only.refl NoF w576) o777 (fun _ h => h.elim)) o797 (fun _ h => h.elim)) o805 (fun _ h => h.elim)) o816 (fun _ h => h.elim)) o823 (fun _ h => h.elim)) o831 (fun _ h => h.elim)) o845 (fun _ h => h.elim)) o853 (fun _ h => h.elim))⟩
     rw [← hw, ← hA]; clear Z az; intro az Z
     clear hw hA
     have ok854 : ∀ zq ∈ ([mA, mB] : List NM), KN0.ok zq := by intro zq hx; simp only [List.mem_cons, List.not_mem_nil, or_false] at hx; rcases hx with rfl | rfl <;> first | exact trivial | exact trivial
     have nt855 : NtV w851 (.slice A850 (List.length ([mA, mB] : List NM)) 2) [mA, mB] := ⟨SliceOf.pl (Row.own KN0 r852 (fun _ _ => trivial)), (ok_cons (okN_mk (by unfold I64; omega) (SliceOf.nil_ _ _ _) (by unfold maxLen; decide)) (ok_cons (okN_mk (by unfold I64; omega) (SliceOf.nil_ _ _ _) (by unfold maxLen; decide)) OkNs.nil))⟩
     refine Pl.MSGV (v := .bool (true)) Z rfl rfl gd_t rfl rfl (fun hb => rfl) Tryz.call9 (fun hb => fix_eq (congrArg Value.bool (decide_eq_true (hL842.trans sm_8))) (rSameChain_v (NtV.notes (NtV.k nt848 o853)) (NtV.notes nt855))) rfl (fun w' o' => ⟨fun _ => (Only.trans' (Only.trans' (Only.trans' (Only.trans' (Only.trans' (Only.trans' (Only.trans' (Only.trans' o777 o797) o805) o816) o823) o831) o845) o853) o'), (Only.trans (Only.trans (Only.trans (Only.trans (Only.trans (Only.trans (Only.trans (Only.trans (Only.trans (Only.refl NoF w576) o777 (fun _ h => h.elim)) o797 (fun _ h => h.elim)) o805 (fun _ h => h.elim)) o816 (fun _ h => h.elim)) o823 (fun _ h => h.elim)) o831 (fun _ h => h.elim)) o845 (fun _ h => h.elim)) o853 (fun _ h => h.elim)) o' (fun _ h => h.elim))⟩) fun w856 o857 => ?_; clear Z az; intro az Z
     refine Pl.MSP (b := true) (by kernel_rfl) (fun W oW => r_pick Z rfl rfl rfl) Z rfl rfl ?_; clear Z az; intro az Z
     refine Pl.MSP (b := true) (by kernel_rfl) (fun W oW => r_as Z rfl) Z rfl rfl ?_; clear Z az; intro az Z
     refine wpPl_nil ?_
     have O858 : Only NoF w574 w856 := (Only.trans' (Only.trans' (Only.trans' (Only.trans' (Only.trans' (Only.trans' (Only.trans' (Only.trans' (Only.trans' o577 o777) o797) o805) o816) o823) o831) o845) o853) o857)
     exact ⟨Z.cut ⟨rfl, rfl, rfl, rfl, rfl, rfl, rfl, rfl, trivial⟩, O858⟩
    ·
     obtain ⟨A859, w860, hw, hA, r861, o862⟩ := Row.made (w := w830) KN0 (e := 43) ([mA, mB] : List NM) (by simp only [List.length_cons, List.length_nil]; unfold maxLen; omega)
     refine Pl.MDT Z rfl rfl (r_bs (z := .agg #[.int .i64 (0), .int .i64 (0), .int .i64 (0), .slice none (0) 0, strV ([])]) (size := 5) (vs := [(0, .agg #[.int .i64 (0), .int .i64 (0), .int .i64 (5), .slice none (0) 0, strV ([])]), (1, .agg #[.int .i64 (0), .int .i64 (1), .int .i64 (5), .slice none (0) 0, strV ([])])]) (cs := List.flatMap KN0.cells [mA, mB]) Tryz.underlying22 Tryz.sizeOf43 Tryz.zeroValue43 rfl (Fr.evalps Z rfl) (by kernel_rfl)) rfl rfl ?_ ?_
     · rw [← hw]; exact ⟨fun _ => (Only.trans' (Only.trans' (Only.trans' (Only.trans' (Only.trans' (Only.trans' o777 o797) o805) o816) o823) o831) o862), (Only.trans (Only.trans (Only.trans (Only.trans (Only.trans (Only.trans (Only.trans (Only.refl NoF w576) o777 (fun _ h => h.elim)) o797 (fun _ h => h.elim)) o805 (fun _ h => h.elim)) o816 (fun _ h => h.elim)) o823 (fun _ h => h.elim)) o831 (fun _ h => h.elim)) o862 (fun _ h => h.elim))⟩
     rw [← hw, ← hA]; clear Z az; intro az Z
     clear hw hA
     have ok863 : ∀ zq ∈ ([mA, mB] : List NM), KN0.ok zq := by intro zq hx; simp only [List.mem_cons, List.not_mem_nil, or_false] at hx; rcases hx with rfl | rfl <;> first | exact trivial | exact trivial
     have O865 : Only NoF w w860 := (Only.trans' (Only.trans' (Only.trans' (Only.trans' O807 o816) o823) o831) o862)
     have G864 := Gr.k hG O865
     have O866 : Only NoF w775 w860 := (Only.trans' (Only.trans' (Only.trans' (Only.trans' O808 o816) o823) o831) o862)
     have h867 := (SliceOf.kp h787 O866 (fun _ _ h => h) (fun _ _ _ _ h => h))
     have h868 := SliceOf.pl h867
     have r869 := (ow_k (ow_k (ow_k (ow_k (ow_k (ow_k (ow_k (ow_k (ow_k (ow_k (ow_k (ow_k (ow_k r78 o88) o92) o98) o102) o575) o577) o777) o797) o805) o816) o823) o831) o862)
     have nt870 : NtV w860 (.slice A76 (List.length ([(mD A51), mB, mA, mC, mA] : List NM)) 5) [(mD A51), mB, mA, mC, mA] := ⟨SliceOf.pl (Row.own KN0 r869 (fun _ _ => trivial)), (ok_cons (okN_mk (by unfold I64; omega) h868 (by unfold maxLen; decide)) (ok_cons (okN_mk (by unfold I64; omega) (SliceOf.nil_ _ _ _) (by unfold maxLen; decide)) (ok_cons (okN_mk (by unfold I64; omega) (SliceOf.nil_ _ _ _) (by unfold maxLen; decide)) (ok_cons (okN_mk (by unfold I64; omega) (SliceOf.nil_ _ _ _) (by unfold maxLen; decide)) (ok_cons (okN_mk (by unfold I64; omega) (SliceOf.nil_ _ _ _) (by unfold maxLen; decide)) OkNs.nil)))))⟩
     have hC878 := Past_v_ G864 nt870 (by first | omega | (simp only [List.length_cons, List.length_nil]; omega)) 0
     refine Pl.MSCT Z rfl rfl rfl rfl rfl Tryz.call15 (hC878) rfl ?_
     rintro e w879 ⟨A871, c872, L873, rfl, hL874, hS875, hN876, o877⟩; refine ⟨_, rfl, ⟨fun _ => (Only.trans' (Only.trans' (Only.trans' (Only.trans' (Only.trans' (Only.trans' (Only.trans' o777 o797) o805) o816) o823) o831) o862) o877), (Only.trans (Only.trans (Only.trans (Only.trans (Only.trans (Only.trans (Only.trans (Only.trans (Only.refl NoF w576) o777 (fun _ h => h.elim)) o797 (fun _ h => h.elim)) o805 (fun _ h => h.elim)) o816 (fun _ h => h.elim)) o823 (fun _ h => h.elim)) o831 (fun _ h => h.elim)) o862 (fun _ h => h.elim)) o877 (fun _ h => h.elim))⟩, ?_⟩
     clear Z az; intro az Z
     have nt880 : NtV w879 (.slice A871 (L873.length) c872) L873 := ⟨SliceOf.pl hS875, OkNs.pl hN876⟩
     have hm881 : L873.length ≤ 1000000 := (pst_lim hL874)
     have r882 := (ow_k r861 o877)
     have nt883 : NtV w879 (.slice A859 (List.length ([mA, mB] : List NM)) 2) [mA, mB] := ⟨SliceOf.pl (Row.own KN0 r882 (fun _ _ => trivial)), (ok_cons (okN_mk (by unfold I64; omega) (SliceOf.nil_ _ _ _) (by unfold maxLen; decide)) (ok_cons (okN_mk (by unfold I64; omega) (SliceOf.nil_ _ _ _) (by unfold maxLen; decide)) OkNs.nil))⟩
     refine Pl.MSGV (v := .bool (true)) Z rfl rfl gd_t rfl rfl (fun hb => rfl) Tryz.call9 (fun hb => fix_eq (congrArg Value.bool (decide_eq_true (hL874.trans sm_8))) (rSameChain_v (NtV.notes nt880) (NtV.notes nt883))) rfl (fun w' o' => ⟨fun _ => (Only.trans' (Only.trans' (Only.trans' (Only.trans' (Only.trans' (Only.trans' (Only.trans' (Only.trans' o777 o797) o805) o816) o823) o831) o862) o877) o'), (Only.trans (Only.trans (Only.trans (Only.trans (Only.trans (Only.trans (Only.trans (Only.trans (Only.trans (Only.refl NoF w576) o777 (fun _ h => h.elim)) o797 (fun _ h => h.elim)) o805 (fun _ h => h.elim)) o816 (fun _ h => h.elim)) o823 (fun _ h => h.elim)) o831 (fun _ h => h.elim)) o862 (fun _ h => h.elim)) o877 (fun _ h => h.elim)) o' (fun _ h => h.elim))⟩) fun w884 o885 => ?_; clear Z az; intro az Z
     refine Pl.MSP (b := true) (by kernel_rfl) (fun W oW => r_pick Z rfl rfl rfl) Z rfl rfl ?_; clear Z az; intro az Z
     refine Pl.MSP (b := true) (by kernel_rfl) (fun W oW => r_as Z rfl) Z rfl rfl ?_; clear Z az; intro az Z
     refine wpPl_nil ?_
     have O886 : Only NoF w574 w884 := (Only.trans' (Only.trans' (Only.trans' (Only.trans' (Only.trans' (Only.trans' (Only.trans' (Only.trans' (Only.trans' o577 o777) o797) o805) o816) o823) o831) o862) o877) o885)
     exact ⟨Z.cut ⟨rfl, rfl, rfl, rfl, rfl, rfl, rfl, rfl, trivial⟩, O886⟩
   ·
    obtain ⟨A887, w888, hw, hA, r889, o890⟩ := Row.made (w := w804) KRef (e := 59) ([(⟨0, 0⟩ : RM)] : List RM) (by simp only [List.length_cons, List.length_nil]; unfold maxLen; omega)
    refine Pl.MDT Z rfl rfl (r_bs (z := .agg #[.int .i64 (0), .int .i64 (0)]) (size := 2) (vs := [(0, .agg #[.int .i64 (0), .int .i64 (0)])]) (cs := List.flatMap KRef.cells [(⟨0, 0⟩ : RM)]) Tryz.underlying35 Tryz.sizeOf59 Tryz.zeroValue59 rfl (Fr.evalps Z rfl) (by kernel_rfl)) rfl rfl ?_ ?_
    · rw [← hw]; exact ⟨fun _ => (Only.trans' (Only.trans' (Only.trans' o777 o797) o805) o890), (Only.trans (Only.trans (Only.trans (Only.trans (Only.refl NoF w576) o777 (fun _ h => h.elim)) o797 (fun _ h => h.elim)) o805 (fun _ h => h.elim)) o890 (fun _ h => h.elim))⟩
    rw [← hw, ← hA]; clear Z az; intro az Z
    clear hw hA
    have ok891 : ∀ zq ∈ ([(⟨0, 0⟩ : RM)] : List RM), KRef.ok zq := by intro zq hx; simp only [List.mem_cons, List.not_mem_nil, or_false] at hx; rcases hx with rfl <;> first | exact (show I64 (0) ∧ I64 (0) from ⟨by unfold I64; omega, by unfold I64; omega⟩)
    have O893 : Only NoF w w888 := (Only.trans' (Only.trans' (Only.trans' O783 o797) o805) o890)
    have G892 := Gr.k hG O893
    have O894 : Only NoF w775 w888 := (Only.trans' (Only.trans' o797 o805) o890)
    have h895 := (SliceOf.kp h787 O894 (fun _ _ h => h) (fun _ _ _ _ h => h))
    have h896 := SliceOf.pl h895
    have r897 := (ow_k (ow_k (ow_k r789 o797) o805) o890)
    have nt898 : NtV w888 (.slice A85 (List.length ([mB, mC, (mD A51)] : List NM)) 3) [mB, mC, (mD A51)] := ⟨SliceOf.pl (Row.own KN0 r897 (fun _ _ => trivial)), (ok_cons (okN_mk (by unfold I64; omega) (SliceOf.nil_ _ _ _) (by unfold maxLen; decide)) (ok_cons (okN_mk (by unfold I64; omega) (SliceOf.nil_ _ _ _) (by unfold maxLen; decide)) (ok_cons (okN_mk (by unfold I64; omega) h896 (by unfold maxLen; decide)) OkNs.nil)))⟩
    have hC904 := Missing_v_ G892 nt898 (by first | omega | (simp only [List.length_cons, List.length_nil]; omega))
    refine Pl.MSCT Z rfl rfl rfl rfl rfl Tryz.call22 (hC904) rfl ?_
    rintro e w905 ⟨A899, c900, rfl, r901, ok903, o902⟩; refine ⟨_, rfl, ⟨fun _ => (Only.trans' (Only.trans' (Only.trans' (Only.trans' o777 o797) o805) o890) o902), (Only.trans (Only.trans (Only.trans (Only.trans (Only.trans (Only.refl NoF w576) o777 (fun _ h => h.elim)) o797 (fun _ h => h.elim)) o805 (fun _ h => h.elim)) o890 (fun _ h => h.elim)) o902 (fun _ h => h.elim))⟩, ?_⟩
    clear Z az; intro az Z
    have h906 := Row.own KRef r901 ok903
    have h907 := SliceOf.pl h906
    have h908 := Row.own KRef r889 ok891
    have h909 := (SliceOf.kp h908 o902 (fun _ _ h => h) (fun _ _ _ _ h => h))
    have h910 := SliceOf.pl h909
    refine Pl.MSGV (v := .bool (true)) Z rfl rfl gd_t rfl rfl (fun hb => rfl) Tryz.call19 (fun hb => fix_eq (congrArg Value.bool (decide_eq_true sm_7)) (rSameRefs_v_ h907 h910)) rfl (fun w' o' => ⟨fun _ => (Only.trans' (Only.trans' (Only.trans' (Only.trans' (Only.trans' o777 o797) o805) o890) o902) o'), (Only.trans (Only.trans (Only.trans (Only.trans (Only.trans (Only.trans (Only.refl NoF w576) o777 (fun _ h => h.elim)) o797 (fun _ h => h.elim)) o805 (fun _ h => h.elim)) o890 (fun _ h => h.elim)) o902 (fun _ h => h.elim)) o' (fun _ h => h.elim))⟩) fun w911 o912 => ?_; clear Z az; intro az Z
    refine Pl.MSP (b := true) (by kernel_rfl) (fun W oW => r_pick Z rfl rfl rfl) Z rfl rfl ?_; clear Z az; intro az Z
    refine Pl.MSP (b := true) (by kernel_rfl) (fun W oW => r_mv Z rfl) Z rfl rfl ?_; clear Z az; intro az Z
    refine Pl.MSPT (b := true) (by kernel_rfl) Z rfl rfl (fun W oW => r_mv Z rfl) rfl rfl ?_; clear Z az; intro az Z
    refine Pl.MSPT (b := true) (by kernel_rfl) Z rfl rfl (fun W oW => r_ldA Tryz.isAgg43 Tryz.sizeOf43 Z rfl (Blk.ca (Blk.k B579 oW)) rfl) rfl rfl ?_; clear Z az; intro az Z
    refine Pl.MSPT (b := true) (by kernel_rfl) Z rfl rfl (fun W oW => r_ldA Tryz.isAgg43 Tryz.sizeOf43 Z rfl (Blk.ca (Blk.k B580 oW)) rfl) rfl rfl ?_; clear Z az; intro az Z
    refine wpPl_fork ?_ ?_
    ·
     have O914 : Only NoF w w911 := (Only.trans' (Only.trans' O893 o902) o912)
     have G913 := Gr.k hG O914
     have O915 : Only NoF w775 w911 := (Only.trans' (Only.trans' O894 o902) o912)
     have h916 := (SliceOf.kp h787 O915 (fun _ _ h => h) (fun _ _ _ _ h => h))
     have h917 := SliceOf.pl h916
     have r918 := (ow_k (ow_k (ow_k (ow_k (ow_k (ow_k (ow_k (ow_k (ow_k (ow_k (ow_k (ow_k r78 o88) o92) o98) o102) o575) o577) o777) o797) o805) o890) o902) o912)
     have nt919 : NtV w911 (.slice A76 (List.length ([(mD A51), mB, mA, mC, mA] : List NM)) 5) [(mD A51), mB, mA, mC, mA] := ⟨SliceOf.pl (Row.own KN0 r918 (fun _ _ => trivial)), (ok_cons (okN_mk (by unfold I64; omega) h917 (by unfold maxLen; decide)) (ok_cons (okN_mk (by unfold I64; omega) (SliceOf.nil_ _ _ _) (by unfold maxLen; decide)) (ok_cons (okN_mk (by unfold I64; omega) (SliceOf.nil_ _ _ _) (by unfold maxLen; decide)) (ok_cons (okN_mk (by unfold I64; omega) (SliceOf.nil_ _ _ _) (by unfold maxLen; decide)) (ok_cons (okN_mk (by unfold I64; omega) (SliceOf.nil_ _ _ _) (by unfold maxLen; decide)) OkNs.nil)))))⟩
     have hC927 := Past_v_ G913 nt919 (by first | omega | (simp only [List.length_cons, List.length_nil]; omega)) 0
     refine Pl.MSCT Z rfl rfl rfl rfl rfl Tryz.call15 (hC927) rfl ?_
     rintro e w928 ⟨A920, c921, L922, rfl, hL923, hS924, hN925, o926⟩; refine ⟨_, rfl, ⟨fun _ => (Only.trans' (Only.trans' (Only.trans' (Only.trans' (Only.trans' (Only.trans' o777 o797) o805) o890) o902) o912) o926), (Only.trans (Only.trans (Only.trans (Only.trans (Only.trans (Only.trans (Only.trans (Only.refl NoF w576) o777 (fun _ h => h.elim)) o797 (fun _ h => h.elim)) o805 (fun _ h => h.elim)) o890 (fun _ h => h.elim)) o902 (fun _ h => h.elim)) o912 (fun _ h => h.elim)) o926 (fun _ h => h.elim))⟩, ?_⟩
     clear Z az; intro az Z
     have nt929 : NtV w928 (.slice A920 (L922.length) c921) L922 := ⟨SliceOf.pl hS924, OkNs.pl hN925⟩
     have hm930 : L922.length ≤ 1000000 := (pst_lim hL923)
     obtain ⟨A931, w932, hw, hA, r933, o934⟩ := Row.made (w := w928) KN0 (e := 43) ([mA, mB] : List NM) (by simp only [List.length_cons, List.length_nil]; unfold maxLen; omega)
     refine Pl.MDT Z rfl rfl (r_bs (z := .agg #[.int .i64 (0), .int .i64 (0), .int .i64 (0), .slice none (0) 0, strV ([])]) (size := 5) (vs := [(0, .agg #[.int .i64 (0), .int .i64 (0), .int .i64 (5), .slice none (0) 0, strV ([])]), (1, .agg #[.int .i64 (0), .int .i64 (1), .int .i64 (5), .slice none (0) 0, strV ([])])]) (cs := List.flatMap KN0.cells [mA, mB]) Tryz.underlying22 Tryz.sizeOf43 Tryz.zeroValue43 rfl (Fr.evalps Z rfl) (by kernel_rfl)) rfl rfl ?_ ?_
     · rw [← hw]; exact ⟨fun _ => (Only.trans' (Only.trans' (Only.trans' (Only.trans' (Only.trans' (Only.trans' (Only.trans' o777 o797) o805) o890) o902) o912) o926) o934), (Only.trans (Only.trans (Only.trans (Only.trans (Only.trans (Only.trans (Only.trans (Only.trans (Only.refl NoF w576) o777 (fun _ h => h.elim)) o797 (fun _ h => h.elim)) o805 (fun _ h => h.elim)) o890 (fun _ h => h.elim)) o902 (fun _ h => h.elim)) o912 (fun _ h => h.elim)) o926 (fun _ h => h.elim)) o934 (fun _ h => h.elim))⟩
     rw [← hw, ← hA]; clear Z az; intro az Z
     clear hw hA
     have ok935 : ∀ zq ∈ ([mA, mB] : List NM), KN0.ok zq := by intro zq hx; simp only [List.mem_cons, List.not_mem_nil, or_false] at hx; rcases hx with rfl | rfl <;> first | exact trivial | exact trivial
     have nt936 : NtV w932 (.slice A931 (List.length ([mA, mB] : List NM)) 2) [mA, mB] := ⟨SliceOf.pl (Row.own KN0 r933 (fun _ _ => trivial)), (ok_cons (okN_mk (by unfold I64; omega) (SliceOf.nil_ _ _ _) (by unfold maxLen; decide)) (ok_cons (okN_mk (by unfold I64; omega) (SliceOf.nil_ _ _ _) (by unfold maxLen; decide)) OkNs.nil))⟩
     refine Pl.MSGV (v := .bool (true)) Z rfl rfl gd_t rfl rfl (fun hb => rfl) Tryz.call9 (fun hb => fix_eq (congrArg Value.bool (decide_eq_true (hL923.trans sm_8))) (rSameChain_v (NtV.notes (NtV.k nt929 o934)) (NtV.notes nt936))) rfl (fun w' o' => ⟨fun _ => (Only.trans' (Only.trans' (Only.trans' (Only.trans' (Only.trans' (Only.trans' (Only.trans' (Only.trans' o777 o797) o805) o890) o902) o912) o926) o934) o'), (Only.trans (Only.trans (Only.trans (Only.trans (Only.trans (Only.trans (Only.trans (Only.trans (Only.trans (Only.refl NoF w576) o777 (fun _ h => h.elim)) o797 (fun _ h => h.elim)) o805 (fun _ h => h.elim)) o890 (fun _ h => h.elim)) o902 (fun _ h => h.elim)) o912 (fun _ h => h.elim)) o926 (fun _ h => h.elim)) o934 (fun _ h => h.elim)) o' (fun _ h => h.elim))⟩) fun w937 o938 => ?_; clear Z az; intro az Z
     refine Pl.MSP (b := true) (by kernel_rfl) (fun W oW => r_pick Z rfl rfl rfl) Z rfl rfl ?_; clear Z az; intro az Z
     refine Pl.MSP (b := true) (by kernel_rfl) (fun W oW => r_as Z rfl) Z rfl rfl ?_; clear Z az; intro az Z
     refine wpPl_nil ?_
     have O939 : Only NoF w574 w937 := (Only.trans' (Only.trans' (Only.trans' (Only.trans' (Only.trans' (Only.trans' (Only.trans' (Only.trans' (Only.trans' o577 o777) o797) o805) o890) o902) o912) o926) o934) o938)
     exact ⟨Z.cut ⟨rfl, rfl, rfl, rfl, rfl, rfl, rfl, rfl, trivial⟩, O939⟩
    ·
     obtain ⟨A940, w941, hw, hA, r942, o943⟩ := Row.made (w := w911) KN0 (e := 43) ([mA, mB] : List NM) (by simp only [List.length_cons, List.length_nil]; unfold maxLen; omega)
     refine Pl.MDT Z rfl rfl (r_bs (z := .agg #[.int .i64 (0), .int .i64 (0), .int .i64 (0), .slice none (0) 0, strV ([])]) (size := 5) (vs := [(0, .agg #[.int .i64 (0), .int .i64 (0), .int .i64 (5), .slice none (0) 0, strV ([])]), (1, .agg #[.int .i64 (0), .int .i64 (1), .int .i64 (5), .slice none (0) 0, strV ([])])]) (cs := List.flatMap KN0.cells [mA, mB]) Tryz.underlying22 Tryz.sizeOf43 Tryz.zeroValue43 rfl (Fr.evalps Z rfl) (by kernel_rfl)) rfl rfl ?_ ?_
     · rw [← hw]; exact ⟨fun _ => (Only.trans' (Only.trans' (Only.trans' (Only.trans' (Only.trans' (Only.trans' o777 o797) o805) o890) o902) o912) o943), (Only.trans (Only.trans (Only.trans (Only.trans (Only.trans (Only.trans (Only.trans (Only.refl NoF w576) o777 (fun _ h => h.elim)) o797 (fun _ h => h.elim)) o805 (fun _ h => h.elim)) o890 (fun _ h => h.elim)) o902 (fun _ h => h.elim)) o912 (fun _ h => h.elim)) o943 (fun _ h => h.elim))⟩
     rw [← hw, ← hA]; clear Z az; intro az Z
     clear hw hA
     have ok944 : ∀ zq ∈ ([mA, mB] : List NM), KN0.ok zq := by intro zq hx; simp only [List.mem_cons, List.not_mem_nil, or_false] at hx; rcases hx with rfl | rfl <;> first | exact trivial | exact trivial
     have O946 : Only NoF w w941 := (Only.trans' (Only.trans' (Only.trans' O893 o902) o912) o943)
     have G945 := Gr.k hG O946
     have O947 : Only NoF w775 w941 := (Only.trans' (Only.trans' (Only.trans' O894 o902) o912) o943)
     have h948 := (SliceOf.kp h787 O947 (fun _ _ h => h) (fun _ _ _ _ h => h))
     have h949 := SliceOf.pl h948
     have r950 := (ow_k (ow_k (ow_k (ow_k (ow_k (ow_k (ow_k (ow_k (ow_k (ow_k (ow_k (ow_k (ow_k r78 o88) o92) o98) o102) o575) o577) o777) o797) o805) o890) o902) o912) o943)
     have nt951 : NtV w941 (.slice A76 (List.length ([(mD A51), mB, mA, mC, mA] : List NM)) 5) [(mD A51), mB, mA, mC, mA] := ⟨SliceOf.pl (Row.own KN0 r950 (fun _ _ => trivial)), (ok_cons (okN_mk (by unfold I64; omega) h949 (by unfold maxLen; decide)) (ok_cons (okN_mk (by unfold I64; omega) (SliceOf.nil_ _ _ _) (by unfold maxLen; decide)) (ok_cons (okN_mk (by unfold I64; omega) (SliceOf.nil_ _ _ _) (by unfold maxLen; decide)) (ok_cons (okN_mk (by unfold I64; omega) (SliceOf.nil_ _ _ _) (by unfold maxLen; decide)) (ok_cons (okN_mk (by unfold I64; omega) (SliceOf.nil_ _ _ _) (by unfold maxLen; decide)) OkNs.nil)))))⟩
     have hC959 := Past_v_ G945 nt951 (by first | omega | (simp only [List.length_cons, List.length_nil]; omega)) 0
     refine Pl.MSCT Z rfl rfl rfl rfl rfl Tryz.call15 (hC959) rfl ?_
     rintro e w960 ⟨A952, c953, L954, rfl, hL955, hS956, hN957, o958⟩; refine ⟨_, rfl, ⟨fun _ => (Only.trans' (Only.trans' (Only.trans' (Only.trans' (Only.trans' (Only.trans' (Only.trans' o777 o797) o805) o890) o902) o912) o943) o958), (Only.trans (Only.trans (Only.trans (Only.trans (Only.trans (Only.trans (Only.trans (Only.trans (Only.refl NoF w576) o777 (fun _ h => h.elim)) o797 (fun _ h => h.elim)) o805 (fun _ h => h.elim)) o890 (fun _ h => h.elim)) o902 (fun _ h => h.elim)) o912 (fun _ h => h.elim)) o943 (fun _ h => h.elim)) o958 (fun _ h => h.elim))⟩, ?_⟩
     clear Z az; intro az Z
     have nt961 : NtV w960 (.slice A952 (L954.length) c953) L954 := ⟨SliceOf.pl hS956, OkNs.pl hN957⟩
     have hm962 : L954.length ≤ 1000000 := (pst_lim hL955)
     have r963 := (ow_k r942 o958)
     have nt964 : NtV w960 (.slice A940 (List.length ([mA, mB] : List NM)) 2) [mA, mB] := ⟨SliceOf.pl (Row.own KN0 r963 (fun _ _ => trivial)), (ok_cons (okN_mk (by unfold I64; omega) (SliceOf.nil_ _ _ _) (by unfold maxLen; decide)) (ok_cons (okN_mk (by unfold I64; omega) (SliceOf.nil_ _ _ _) (by unfold maxLen; decide)) OkNs.nil))⟩
     refine Pl.MSGV (v := .bool (true)) Z rfl rfl gd_t rfl rfl (fun hb => rfl) Tryz.call9 (fun hb => fix_eq (congrArg Value.bool (decide_eq_true (hL955.trans sm_8))) (rSameChain_v (NtV.notes nt961) (NtV.notes nt964))) rfl (fun w' o' => ⟨fun _ => (Only.trans' (Only.trans' (Only.trans' (Only.trans' (Only.trans' (Only.trans' (Only.trans' (Only.trans' o777 o797) o805) o890) o902) o912) o943) o958) o'), (Only.trans (Only.trans (Only.trans (Only.trans (Only.trans (Only.trans (Only.trans (Only.trans (Only.trans (Only.refl NoF w576) o777 (fun _ h => h.elim)) o797 (fun _ h => h.elim)) o805 (fun _ h => h.elim)) o890 (fun _ h => h.elim)) o902 (fun _ h => h.elim)) o912 (fun _ h => h.elim)) o943 (fun _ h => h.elim)) o958 (fun _ h => h.elim)) o' (fun _ h => h.elim))⟩) fun w965 o966 => ?_; clear Z az; intro az Z
     refine Pl.MSP (b := true) (by kernel_rfl) (fun W oW => r_pick Z rfl rfl rfl) Z rfl rfl ?_; clear Z az; intro az Z
     refine Pl.MSP (b := true) (by kernel_rfl) (fun W oW => r_as Z rfl) Z rfl rfl ?_; clear Z az; intro az Z
     refine wpPl_nil ?_
     have O967 : Only NoF w574 w965 := (Only.trans' (Only.trans' (Only.trans' (Only.trans' (Only.trans' (Only.trans' (Only.trans' (Only.trans' (Only.trans' o577 o777) o797) o805) o890) o902) o912) o943) o958) o966)
     exact ⟨Z.cut ⟨rfl, rfl, rfl, rfl, rfl, rfl, rfl, rfl, trivial⟩, O967⟩
 clear Z az
 rintro az w968 ⟨Z, o969⟩
 refine wp_seq_k fun _ k970 => wp_region_lit ?_
 refine L (r_mv Z rfl) Z rfl ?_; clear Z az; intro az Z
 refine L (r_mv Z rfl) Z rfl ?_; clear Z az; intro az Z
 have O983 : Only NoF w w15 := (Only.trans' (o_sg (Only.trans' o4 o7) s12 (size_only o4) (oneF_ge hg9)) o16)
 have O984 : Only NoF w w27 := (Only.trans' (o_sg (Only.trans' O983 o19) s24 (size_only O983) (oneF_ge hg21)) o28)
 have O985 : Only NoF w w39 := (Only.trans' (o_sg (Only.trans' O984 o31) s36 (size_only O984) (oneF_ge hg33)) o40)
 have O986 : Only NoF w w968 := (Only.trans' (Only.trans' (Only.trans' (Only.trans' (Only.trans' (Only.trans' (Only.trans' (o_sg (Only.trans' (o_sg (Only.trans' (Only.trans' (o_sg (Only.trans' (Only.trans' (o_sg (Only.trans' (Only.trans' (o_sg (Only.trans' o4 o7) s12 (size_only o4) (oneF_ge hg9)) o16) o19) s24 (size_only O983) (oneF_ge hg21)) o28) o31) s36 (size_only O984) (oneF_ge hg33)) o40) o43) s48 (size_only O985) (oneF_ge hg45)) o54) s58 (size_only O985) (oneF_ge hg45)) o79) o88) o92) o98) o102) o575) o969)
 have G982 := Gr.k hG O986
 have h987 := Row.own KRef r53 ok55
 have O988 := (Only.trans (Only.refl (fun _ => True) w42) s48 (fun _ _ => .inl trivial))
 have O989 : Only NoF w57 w968 := (Only.trans' (Only.trans' (Only.trans' (Only.trans' (Only.trans' (Only.trans' o79 o88) o92) o98) o102) o575) o969)
 have h990 := (SliceOf.kp (SliceOf.kp h987 s58 (ge_F (oneF_lt hl46) (size_only O988)) (fun _ _ _ _ h => h)) O989 (fun _ _ h => h) (fun _ _ _ _ h => h))
 have h991 := SliceOf.pl h990
 have r992 := (ow_k (ow_k (ow_k (ow_k (ow_k (ow_k r78 o88) o92) o98) o102) o575) o969)
 have nt993 : NtV w968 (.slice A76 (List.length ([(mD A51), mB, mA, mC, mA] : List NM)) 5) [(mD A51), mB, mA, mC, mA] := ⟨SliceOf.pl (Row.own KN0 r992 (fun _ _ => trivial)), (ok_cons (okN_mk (by unfold I64; omega) h991 (by unfold maxLen; decide)) (ok_cons (okN_mk (by unfold I64; omega) (SliceOf.nil_ _ _ _) (by unfold maxLen; decide)) (ok_cons (okN_mk (by unfold I64; omega) (SliceOf.nil_ _ _ _) (by unfold maxLen; decide)) (ok_cons (okN_mk (by unfold I64; omega) (SliceOf.nil_ _ _ _) (by unfold maxLen; decide)) (ok_cons (okN_mk (by unfold I64; omega) (SliceOf.nil_ _ _ _) (by unfold maxLen; decide)) OkNs.nil)))))⟩
 have r994 := (ow_k (ow_k (ow_k (ow_k (ow_k r87 o92) o98) o102) o575) o969)
 have nt995 : NtV w968 (.slice A85 (List.length ([mB, mC, (mD A51)] : List NM)) 3) [mB, mC, (mD A51)] := ⟨SliceOf.pl (Row.own KN0 r994 (fun _ _ => trivial)), (ok_cons (okN_mk (by unfold I64; omega) (SliceOf.nil_ _ _ _) (by unfold maxLen; decide)) (ok_cons (okN_mk (by unfold I64; omega) (SliceOf.nil_ _ _ _) (by unfold maxLen; decide)) (ok_cons (okN_mk (by unfold I64; omega) h991 (by unfold maxLen; decide)) OkNs.nil)))⟩
 have hC996 := Talk_v_ G982 nt993 nt995 (by first | omega | (simp only [List.length_cons, List.length_nil]; omega)) (by first | omega | (simp only [List.length_cons, List.length_nil]; omega))
 refine LC Z rfl rfl Tryz.call7 (hC996) rfl ?_
 rintro e w997 ⟨A971, c972, L973, A974, c975, L976, rfl, hL977, hL978, hN979, hN980, o981⟩; refine ⟨_, rfl, ?_⟩
 clear Z az; intro az Z
 have nt998 : NtV w997 (.slice A971 (L973.length) c972) L973 := ⟨SliceOf.pl hN979.1, OkNs.pl hN979.2⟩
 have hm999 : L973.length ≤ 1000000 := (lss_lim hL977 (by first | omega | (simp only [List.length_cons, List.length_nil]; omega)))
 have nt1000 : NtV w997 (.slice A974 (L976.length) c975) L976 := ⟨SliceOf.pl hN980.1, OkNs.pl hN980.2⟩
 have hm1001 : L976.length ≤ 1000000 := (lss_lim hL978 (by first | omega | (simp only [List.length_cons, List.length_nil]; omega)))
 refine L (r_mv Z rfl) Z rfl ?_; clear Z az; intro az Z
 refine L (r_ex Z rfl rfl) Z rfl ?_; clear Z az; intro az Z
 refine L (r_ex Z rfl rfl) Z rfl ?_; clear Z az; intro az Z
 refine L (r_as Z rfl) Z rfl ?_; clear Z az; intro az Z
 refine L (r_as Z rfl) Z rfl ?_; clear Z az; intro az Z
 refine k970 _ _ (wp_seq_k fun _ k1002 => wp_region_lit ?_)
 refine L (r_mv Z rfl) Z rfl ?_; clear Z az; intro az Z
 refine L (r_len0 Tryz.underlying22 Z rfl (ns_nil hL977 sm_9)) Z rfl ?_; clear Z az; intro az Z
 refine L (r_eqRI Z rfl rfl) Z rfl ?_; clear Z az; intro az Z
 refine L (r_mv Z rfl) Z rfl ?_; clear Z az; intro az Z
 refine LT Z rfl rfl (r_mv Z rfl) rfl ?_; clear Z az; intro az Z
 have B1003 := (Blk.k (Blk.k (Blk.k (Blk.k (Blk.k B93 o98) o102) o575) o969) o981)
 refine LT Z rfl rfl (r_ldA Tryz.isAgg43 Tryz.sizeOf43 Z rfl (Blk.ca B1003) rfl) rfl ?_; clear Z az; intro az Z
 obtain ⟨A1004, w1005, hw, hA, r1006, o1007⟩ := Row.made (w := w997) KN0 (e := 43) ([mA] : List NM) (by simp only [List.length_cons, List.length_nil]; unfold maxLen; omega)
 refine LT Z rfl rfl (r_bs (z := .agg #[.int .i64 (0), .int .i64 (0), .int .i64 (0), .slice none (0) 0, strV ([])]) (size := 5) (vs := [(0, .agg #[.int .i64 (0), .int .i64 (0), .int .i64 (5), .slice none (0) 0, strV ([])])]) (cs := List.flatMap KN0.cells [mA]) Tryz.underlying22 Tryz.sizeOf43 Tryz.zeroValue43 rfl (Fr.evalps Z rfl) (by kernel_rfl)) rfl ?_
 rw [← hw, ← hA]; clear Z az; intro az Z
 clear hw hA
 have ok1008 : ∀ zq ∈ ([mA] : List NM), KN0.ok zq := by intro zq hx; simp only [List.mem_cons, List.not_mem_nil, or_false] at hx; rcases hx with rfl <;> first | exact trivial
 have nt1009 : NtV w1005 (.slice A1004 (List.length ([mA] : List NM)) 1) [mA] := ⟨SliceOf.pl (Row.own KN0 r1006 (fun _ _ => trivial)), (ok_cons (okN_mk (by unfold I64; omega) (SliceOf.nil_ _ _ _) (by unfold maxLen; decide)) OkNs.nil)⟩
 refine LGV (v := .bool (true)) Z rfl rfl gd_t rfl (fun hb => rfl) Tryz.call9 (fun hb => fix_eq (congrArg Value.bool (decide_eq_true (hL978.trans sm_10))) (rSameChain_v (NtV.notes (NtV.k nt1000 o1007)) (NtV.notes nt1009))) rfl fun w1010 o1011 => ?_; clear Z az; intro az Z
 refine L (r_pick Z rfl rfl rfl) Z rfl ?_; clear Z az; intro az Z
 refine L (r_as Z rfl) Z rfl ?_; clear Z az; intro az Z
 refine k1002 _ _ (wp_seq_k fun _ k1012 => ?_)
 refine reg_p NoF 7 [9, 12, 13, 17, 18, 19, 23] (.rd 0 (.rd 1 (.rd 2 (.rd 3 (.rd 4 (.rd 5 (.rd 6 (.rd 7 (.rd 8 (.rd 10 (.rd 11 (.fork 9 (.ex 12 (.ex 13 (.rd 14 (.rd 15 (.rd 16 (.fork 17 (.ex 18 (.ex 19 (.rd 20 (.rd 21 (.rd 22 (.ex 23 (.rd 24 (.rd 25 (.rd 26 (.rd 27 .nil)))))))))) 18 (.ex 17 (.ex 19 (.rd 20 (.rd 21 (.rd 22 (.ex 23 (.rd 24 (.rd 25 (.rd 26 (.rd 27 .nil)))))))))))))))) 12 (.ex 9 (.ex 13 (.rd 14 (.rd 15 (.rd 16 (.fork 17 (.ex 18 (.ex 19 (.rd 20 (.rd 21 (.rd 22 (.ex 23 (.rd 24 (.rd 25 (.rd 26 (.rd 27 .nil)))))))))) 18 (.ex 17 (.ex 19 (.rd 20 (.rd 21 (.rd 22 (.ex 23 (.rd 24 (.rd 25 (.rd 26 (.rd 27 .nil)))))))))))))))))))))))))))) (by kernel_rfl) (by kernel_rfl) (fun _ _ _ _ _ h => h) fun w1013 o1014 => ?_
 have B1015 := (Blk.k (Blk.k (Blk.k (Blk.k (Blk.k (Blk.k (Blk.k (Blk.k B95 o98) o102) o575) o969) o981) o1007) o1011) o1014)
 have B1016 := (Blk.k (Blk.k (Blk.k (Blk.k (Blk.k (Blk.k (Blk.k (Blk.k B96 o98) o102) o575) o969) o981) o1007) o1011) o1014)
 refine Pl.MSP (b := true) (by kernel_rfl) (fun W oW => r_mv Z rfl) Z rfl rfl ?_; clear Z az; intro az Z
 refine Pl.MSP (b := true) (by kernel_rfl) (fun W oW => r_mv Z rfl) Z rfl rfl ?_; clear Z az; intro az Z
 refine Pl.MSPT (b := true) (by kernel_rfl) Z rfl rfl (fun W oW => r_mv Z rfl) rfl rfl ?_; clear Z az; intro az Z
 refine Pl.MSP (b := true) (by kernel_rfl) (fun W oW => r_pick Z rfl rfl rfl) Z rfl rfl ?_; clear Z az; intro az Z
 refine Pl.MSP (b := true) (by kernel_rfl) (fun W oW => r_mv Z rfl) Z rfl rfl ?_; clear Z az; intro az Z
 refine Pl.MSPT (b := true) (by kernel_rfl) Z rfl rfl (fun W oW => r_mv Z rfl) rfl rfl ?_; clear Z az; intro az Z
 refine Pl.MSP (b := true) (by kernel_rfl) (fun W oW => r_pick Z rfl rfl rfl) Z rfl rfl ?_; clear Z az; intro az Z
 refine Pl.MSP (b := true) (by kernel_rfl) (fun W oW => r_mv Z rfl) Z rfl rfl ?_; clear Z az; intro az Z
 refine Pl.MSPT (b := true) (by kernel_rfl) Z rfl rfl (fun W oW => r_mv Z rfl) rfl rfl ?_; clear Z az; intro az Z
 refine Pl.MSPT (b := true) (by kernel_rfl) Z rfl rfl (fun W oW => r_ldA Tryz.isAgg43 Tryz.sizeOf43 Z rfl (Blk.ca (Blk.k B1015 oW)) rfl) rfl rfl ?_; clear Z az; intro az Z
 refine Pl.MSPT (b := true) (by kernel_rfl) Z rfl rfl (fun W oW => r_ldA Tryz.isAgg43 Tryz.sizeOf43 Z rfl (Blk.ca (Blk.k B1016 oW)) rfl) rfl rfl ?_; clear Z az; intro az Z
 refine wpPl_fork ?_ ?_
 ·
  have O1018 : Only NoF w w1013 := (Only.trans' (Only.trans' (Only.trans' (Only.trans' O986 o981) o1007) o1011) o1014)
  have G1017 := Gr.k hG O1018
  have O1019 : Only NoF w968 w1013 := (Only.trans' (Only.trans' (Only.trans' o981 o1007) o1011) o1014)
  have h1020 := (SliceOf.kp h990 O1019 (fun _ _ h => h) (fun _ _ _ _ h => h))
  have h1021 := SliceOf.pl h1020
  have r1022 := (ow_k (ow_k (ow_k (ow_k (ow_k (ow_k r101 o575) o969) o981) o1007) o1011) o1014)
  have nt1023 : NtV w1013 (.slice A99 (List.length ([mA, mB, mC, (mD A51), mE] : List NM)) 5) [mA, mB, mC, (mD A51), mE] := ⟨SliceOf.pl (Row.own KN0 r1022 (fun _ _ => trivial)), (ok_cons (okN_mk (by unfold I64; omega) (SliceOf.nil_ _ _ _) (by unfold maxLen; decide)) (ok_cons (okN_mk (by unfold I64; omega) (SliceOf.nil_ _ _ _) (by unfold maxLen; decide)) (ok_cons (okN_mk (by unfold I64; omega) (SliceOf.nil_ _ _ _) (by unfold maxLen; decide)) (ok_cons (okN_mk (by unfold I64; omega) h1021 (by unfold maxLen; decide)) (ok_cons (okN_mk (by unfold I64; omega) (SliceOf.nil_ _ _ _) (by unfold maxLen; decide)) OkNs.nil)))))⟩
  have hC1031 := Order_v_ G1017 nt1023 (by first | omega | (simp only [List.length_cons, List.length_nil]; omega))
  refine Pl.MSCT Z rfl rfl rfl rfl rfl Tryz.call17 (hC1031) rfl ?_
  rintro e w1032 ⟨A1024, c1025, L1026, rfl, hL1027, hS1028, hN1029, o1030⟩; refine ⟨_, rfl, ⟨fun _ => o1030, (Only.trans (Only.refl NoF w1013) o1030 (fun _ h => h.elim))⟩, ?_⟩
  clear Z az; intro az Z
  have nt1033 : NtV w1032 (.slice A1024 (L1026.length) c1025) L1026 := ⟨SliceOf.pl hS1028, OkNs.pl hN1029⟩
  have hm1034 : L1026.length ≤ 1000000 := (ord_lim hL1027 (by first | omega | (simp only [List.length_cons, List.length_nil]; omega)))
  obtain ⟨A1035, w1036, hw, hA, r1037, o1038⟩ := Row.made (w := w1032) KN0 (e := 43) ([mC, (mD A51)] : List NM) (by simp only [List.length_cons, List.length_nil]; unfold maxLen; omega)
  refine Pl.MDT Z rfl rfl (r_bs (z := .agg #[.int .i64 (0), .int .i64 (0), .int .i64 (0), .slice none (0) 0, strV ([])]) (size := 5) (vs := [(0, .agg #[.int .i64 (1), .int .i64 (0), .int .i64 (4), .slice none (0) 0, strV ([])]), (1, .agg #[.int .i64 (1), .int .i64 (1), .int .i64 (4), .slice A51 (1) 1, strV ([])])]) (cs := List.flatMap KN0.cells [mC, (mD A51)]) Tryz.underlying22 Tryz.sizeOf43 Tryz.zeroValue43 rfl (Fr.evalps Z rfl) (by kernel_rfl)) rfl rfl ?_ ?_
  · rw [← hw]; exact ⟨fun _ => (Only.trans' o1030 o1038), (Only.trans (Only.trans (Only.refl NoF w1013) o1030 (fun _ h => h.elim)) o1038 (fun _ h => h.elim))⟩
  rw [← hw, ← hA]; clear Z az; intro az Z
  clear hw hA
  have ok1039 : ∀ zq ∈ ([mC, (mD A51)] : List NM), KN0.ok zq := by intro zq hx; simp only [List.mem_cons, List.not_mem_nil, or_false] at hx; rcases hx with rfl | rfl <;> first | exact trivial | exact trivial
  have O1040 : Only NoF w968 w1036 := (Only.trans' (Only.trans' O1019 o1030) o1038)
  have h1041 := (SliceOf.kp h990 O1040 (fun _ _ h => h) (fun _ _ _ _ h => h))
  have h1042 := SliceOf.pl h1041
  have nt1043 : NtV w1036 (.slice A1035 (List.length ([mC, (mD A51)] : List NM)) 2) [mC, (mD A51)] := ⟨SliceOf.pl (Row.own KN0 r1037 (fun _ _ => trivial)), (ok_cons (okN_mk (by unfold I64; omega) (SliceOf.nil_ _ _ _) (by unfold maxLen; decide)) (ok_cons (okN_mk (by unfold I64; omega) h1042 (by unfold maxLen; decide)) OkNs.nil))⟩
  refine Pl.MSGV (v := .bool (true)) Z rfl rfl gd_t rfl rfl (fun hb => rfl) Tryz.call9 (fun hb => fix_eq (congrArg Value.bool (decide_eq_true (hL1027.trans sm_11))) (rSameChain_v (NtV.notes (NtV.k nt1033 o1038)) (NtV.notes nt1043))) rfl (fun w' o' => ⟨fun _ => (Only.trans' (Only.trans' o1030 o1038) o'), (Only.trans (Only.trans (Only.trans (Only.refl NoF w1013) o1030 (fun _ h => h.elim)) o1038 (fun _ h => h.elim)) o' (fun _ h => h.elim))⟩) fun w1044 o1045 => ?_; clear Z az; intro az Z
  refine Pl.MSP (b := true) (by kernel_rfl) (fun W oW => r_pick Z rfl rfl rfl) Z rfl rfl ?_; clear Z az; intro az Z
  refine Pl.MSP (b := true) (by kernel_rfl) (fun W oW => r_mv Z rfl) Z rfl rfl ?_; clear Z az; intro az Z
  refine Pl.MSPT (b := true) (by kernel_rfl) Z rfl rfl (fun W oW => r_mv Z rfl) rfl rfl ?_; clear Z az; intro az Z
  refine wpPl_fork ?_ ?_
  ·
   have O1047 : Only NoF w w1044 := (Only.trans' (Only.trans' (Only.trans' O1018 o1030) o1038) o1045)
   have G1046 := Gr.k hG O1047
   have O1048 : Only NoF w968 w1044 := (Only.trans' O1040 o1045)
   have h1049 := (SliceOf.kp h990 O1048 (fun _ _ h => h) (fun _ _ _ _ h => h))
   have h1050 := SliceOf.pl h1049
   have r1051 := (ow_k (ow_k (ow_k r1022 o1030) o1038) o1045)
   have nt1052 : NtV w1044 (.slice A99 (List.length ([mA, mB, mC, (mD A51), mE] : List NM)) 5) [mA, mB, mC, (mD A51), mE] := ⟨SliceOf.pl (Row.own KN0 r1051 (fun _ _ => trivial)), (ok_cons (okN_mk (by unfold I64; omega) (SliceOf.nil_ _ _ _) (by unfold maxLen; decide)) (ok_cons (okN_mk (by unfold I64; omega) (SliceOf.nil_ _ _ _) (by unfold maxLen; decide)) (ok_cons (okN_mk (by unfold I64; omega) (SliceOf.nil_ _ _ _) (by unfold maxLen; decide)) (ok_cons (okN_mk (by unfold I64; omega) h1050 (by unfold maxLen; decide)) (ok_cons (okN_mk (by unfold I64; omega) (SliceOf.nil_ _ _ _) (by unfold maxLen; decide)) OkNs.nil)))))⟩
   have hC1057 := Forks_v_ G1046 nt1052 (by first | omega | (simp only [List.length_cons, List.length_nil]; omega))
   refine Pl.MSCT Z rfl rfl rfl rfl rfl Tryz.call13 (hC1057) rfl ?_
   rintro e w1058 ⟨A1053, c1054, rfl, r1055, o1056⟩; refine ⟨_, rfl, ⟨fun _ => (Only.trans' (Only.trans' (Only.trans' o1030 o1038) o1045) o1056), (Only.trans (Only.trans (Only.trans (Only.trans (Only.refl NoF w1013) o1030 (fun _ h => h.elim)) o1038 (fun _ h => h.elim)) o1045 (fun _ h => h.elim)) o1056 (fun _ h => h.elim))⟩, ?_⟩
   clear Z az; intro az Z
   obtain ⟨A1059, w1060, hw, hA, r1061, o1062⟩ := Row.made (w := w1058) KInt (e := 3) ([0] : List Int) (by simp only [List.length_cons, List.length_nil]; unfold maxLen; omega)
   refine Pl.MDT Z rfl rfl (r_bs (z := .int .i64 (0)) (size := 1) (vs := [(0, .int .i64 (0))]) (cs := List.flatMap KInt.cells [0]) Tryz.underlying30 Tryz.sizeOf3 Tryz.zeroValue3 rfl (Fr.evalps Z rfl) (by kernel_rfl)) rfl rfl ?_ ?_
   · rw [← hw]; exact ⟨fun _ => (Only.trans' (Only.trans' (Only.trans' (Only.trans' o1030 o1038) o1045) o1056) o1062), (Only.trans (Only.trans (Only.trans (Only.trans (Only.trans (Only.refl NoF w1013) o1030 (fun _ h => h.elim)) o1038 (fun _ h => h.elim)) o1045 (fun _ h => h.elim)) o1056 (fun _ h => h.elim)) o1062 (fun _ h => h.elim))⟩
   rw [← hw, ← hA]; clear Z az; intro az Z
   clear hw hA
   have ok1063 : ∀ zq ∈ ([0] : List Int), KInt.ok zq := by intro zq hx; simp only [List.mem_cons, List.not_mem_nil, or_false] at hx; rcases hx with rfl <;> first | exact (by show I64 (0); unfold I64; omega)
   have h1064 := Row.own KInt r1055 (forks_ok _)
   have h1065 := (SliceOf.kp h1064 o1062 (fun _ _ h => h) (fun _ _ _ _ h => h))
   have h1066 := SliceOf.pl h1065
   have h1067 := Row.own KInt r1061 ok1063
   have h1068 := SliceOf.pl h1067
   refine Pl.MSGV (v := .bool (true)) Z rfl rfl gd_t rfl rfl (fun hb => rfl) Tryz.call12 (fun hb => fix_eq (congrArg Value.bool (decide_eq_true sm_12)) (sameI_v_ h1066 h1068)) rfl (fun w' o' => ⟨fun _ => (Only.trans' (Only.trans' (Only.trans' (Only.trans' (Only.trans' o1030 o1038) o1045) o1056) o1062) o'), (Only.trans (Only.trans (Only.trans (Only.trans (Only.trans (Only.trans (Only.refl NoF w1013) o1030 (fun _ h => h.elim)) o1038 (fun _ h => h.elim)) o1045 (fun _ h => h.elim)) o1056 (fun _ h => h.elim)) o1062 (fun _ h => h.elim)) o' (fun _ h => h.elim))⟩) fun w1069 o1070 => ?_; clear Z az; intro az Z
   refine Pl.MSP (b := true) (by kernel_rfl) (fun W oW => r_pick Z rfl rfl rfl) Z rfl rfl ?_; clear Z az; intro az Z
   refine Pl.MSP (b := true) (by kernel_rfl) (fun W oW => r_mv Z rfl) Z rfl rfl ?_; clear Z az; intro az Z
   refine Pl.MSPT (b := true) (by kernel_rfl) Z rfl rfl (fun W oW => r_mv Z rfl) rfl rfl ?_; clear Z az; intro az Z
   have O1072 : Only NoF w w1069 := (Only.trans' (Only.trans' (Only.trans' O1047 o1056) o1062) o1070)
   have G1071 := Gr.k hG O1072
   have O1073 : Only NoF w968 w1069 := (Only.trans' (Only.trans' (Only.trans' O1048 o1056) o1062) o1070)
   have h1074 := (SliceOf.kp h990 O1073 (fun _ _ h => h) (fun _ _ _ _ h => h))
   have h1075 := SliceOf.pl h1074
   have r1076 := (ow_k (ow_k (ow_k r1051 o1056) o1062) o1070)
   have nt1077 : NtV w1069 (.slice A99 (List.length ([mA, mB, mC, (mD A51), mE] : List NM)) 5) [mA, mB, mC, (mD A51), mE] := ⟨SliceOf.pl (Row.own KN0 r1076 (fun _ _ => trivial)), (ok_cons (okN_mk (by unfold I64; omega) (SliceOf.nil_ _ _ _) (by unfold maxLen; decide)) (ok_cons (okN_mk (by unfold I64; omega) (SliceOf.nil_ _ _ _) (by unfold maxLen; decide)) (ok_cons (okN_mk (by unfold I64; omega) (SliceOf.nil_ _ _ _) (by unfold maxLen; decide)) (ok_cons (okN_mk (by unfold I64; omega) h1075 (by unfold maxLen; decide)) (ok_cons (okN_mk (by unfold I64; omega) (SliceOf.nil_ _ _ _) (by unfold maxLen; decide)) OkNs.nil)))))⟩
   have hC1085 := Past_v_ G1071 nt1077 (by first | omega | (simp only [List.length_cons, List.length_nil]; omega)) 0
   refine Pl.MSCT Z rfl rfl rfl rfl rfl Tryz.call15 (hC1085) rfl ?_
   rintro e w1086 ⟨A1078, c1079, L1080, rfl, hL1081, hS1082, hN1083, o1084⟩; refine ⟨_, rfl, ⟨fun _ => (Only.trans' (Only.trans' (Only.trans' (Only.trans' (Only.trans' (Only.trans' o1030 o1038) o1045) o1056) o1062) o1070) o1084), (Only.trans (Only.trans (Only.trans (Only.trans (Only.trans (Only.trans (Only.trans (Only.refl NoF w1013) o1030 (fun _ h => h.elim)) o1038 (fun _ h => h.elim)) o1045 (fun _ h => h.elim)) o1056 (fun _ h => h.elim)) o1062 (fun _ h => h.elim)) o1070 (fun _ h => h.elim)) o1084 (fun _ h => h.elim))⟩, ?_⟩
   clear Z az; intro az Z
   have nt1087 : NtV w1086 (.slice A1078 (L1080.length) c1079) L1080 := ⟨SliceOf.pl hS1082, OkNs.pl hN1083⟩
   have hm1088 : L1080.length ≤ 1000000 := (pst_lim hL1081)
   refine Pl.MSPT (b := true) (by kernel_rfl) Z rfl rfl (fun W oW => r_len0 Tryz.underlying22 Z rfl (ns_nil hL1081 sm_13)) rfl rfl ?_; clear Z az; intro az Z
   refine Pl.MSPT (b := true) (by kernel_rfl) Z rfl rfl (fun W oW => r_eqRI Z rfl rfl) rfl rfl ?_; clear Z az; intro az Z
   refine Pl.MSP (b := true) (by kernel_rfl) (fun W oW => r_pick Z rfl rfl rfl) Z rfl rfl ?_; clear Z az; intro az Z
   refine Pl.MSP (b := true) (by kernel_rfl) (fun W oW => r_as Z rfl) Z rfl rfl ?_; clear Z az; intro az Z
   refine wpPl_nil ?_
   refine k1012 _ _ ?_
   refine wp_ret ?_
   show bodyPost _ _ _ .ret _ _
   refine ret_of (vs := [.bool (true)]) Z Tryz.results5 ⟨rfl, trivial⟩ ?_
   have O1089 : Only NoF w w1086 := (Only.trans' O1072 o1084)
   exact ⟨rfl, O1089⟩
  ·
   obtain ⟨A1090, w1091, hw, hA, r1092, o1093⟩ := Row.made (w := w1044) KInt (e := 3) ([0] : List Int) (by simp only [List.length_cons, List.length_nil]; unfold maxLen; omega)
   refine Pl.MDT Z rfl rfl (r_bs (z := .int .i64 (0)) (size := 1) (vs := [(0, .int .i64 (0))]) (cs := List.flatMap KInt.cells [0]) Tryz.underlying30 Tryz.sizeOf3 Tryz.zeroValue3 rfl (Fr.evalps Z rfl) (by kernel_rfl)) rfl rfl ?_ ?_
   · rw [← hw]; exact ⟨fun _ => (Only.trans' (Only.trans' (Only.trans' o1030 o1038) o1045) o1093), (Only.trans (Only.trans (Only.trans (Only.trans (Only.refl NoF w1013) o1030 (fun _ h => h.elim)) o1038 (fun _ h => h.elim)) o1045 (fun _ h => h.elim)) o1093 (fun _ h => h.elim))⟩
   rw [← hw, ← hA]; clear Z az; intro az Z
   clear hw hA
   have ok1094 : ∀ zq ∈ ([0] : List Int), KInt.ok zq := by intro zq hx; simp only [List.mem_cons, List.not_mem_nil, or_false] at hx; rcases hx with rfl <;> first | exact (by show I64 (0); unfold I64; omega)
   have O1096 : Only NoF w w1091 := (Only.trans' (Only.trans' (Only.trans' (Only.trans' O1018 o1030) o1038) o1045) o1093)
   have G1095 := Gr.k hG O1096
   have O1097 : Only NoF w968 w1091 := (Only.trans' (Only.trans' O1040 o1045) o1093)
   have h1098 := (SliceOf.kp h990 O1097 (fun _ _ h => h) (fun _ _ _ _ h => h))
   have h1099 := SliceOf.pl h1098
   have r1100 := (ow_k (ow_k (ow_k (ow_k r1022 o1030) o1038) o1045) o1093)
   have nt1101 : NtV w1091 (.slice A99 (List.length ([mA, mB, mC, (mD A51), mE] : List NM)) 5) [mA, mB, mC, (mD A51), mE] := ⟨SliceOf.pl (Row.own KN0 r1100 (fun _ _ => trivial)), (ok_cons (okN_mk (by unfold I64; omega) (SliceOf.nil_ _ _ _) (by unfold maxLen; decide)) (ok_cons (okN_mk (by unfold I64; omega) (SliceOf.nil_ _ _ _) (by unfold maxLen; decide)) (ok_cons (okN_mk (by unfold I64; omega) (SliceOf.nil_ _ _ _) (by unfold maxLen; decide)) (ok_cons (okN_mk (by unfold I64; omega) h1099 (by unfold maxLen; decide)) (ok_cons (okN_mk (by unfold I64; omega) (SliceOf.nil_ _ _ _) (by unfold maxLen; decide)) OkNs.nil)))))⟩
   have hC1106 := Forks_v_ G1095 nt1101 (by first | omega | (simp only [List.length_cons, List.length_nil]; omega))
   refine Pl.MSCT Z rfl rfl rfl rfl rfl Tryz.call13 (hC1106) rfl ?_
   rintro e w1107 ⟨A1102, c1103, rfl, r1104, o1105⟩; refine ⟨_, rfl, ⟨fun _ => (Only.trans' (Only.trans' (Only.trans' (Only.trans' o1030 o1038) o1045) o1093) o1105), (Only.trans (Only.trans (Only.trans (Only.trans (Only.trans (Only.refl NoF w1013) o1030 (fun _ h => h.elim)) o1038 (fun _ h => h.elim)) o1045 (fun _ h => h.elim)) o1093 (fun _ h => h.elim)) o1105 (fun _ h => h.elim))⟩, ?_⟩
   clear Z az; intro az Z
   have h1108 := Row.own KInt r1104 (forks_ok _)
   have h1109 := SliceOf.pl h1108
   have h1110 := Row.own KInt r1092 ok1094
   have h1111 := (SliceOf.kp h1110 o1105 (fun _ _ h => h) (fun _ _ _ _ h => h))
   have h1112 := SliceOf.pl h1111
   refine Pl.MSGV (v := .bool (true)) Z rfl rfl gd_t rfl rfl (fun hb => rfl) Tryz.call12 (fun hb => fix_eq (congrArg Value.bool (decide_eq_true sm_12)) (sameI_v_ h1109 h1112)) rfl (fun w' o' => ⟨fun _ => (Only.trans' (Only.trans' (Only.trans' (Only.trans' (Only.trans' o1030 o1038) o1045) o1093) o1105) o'), (Only.trans (Only.trans (Only.trans (Only.trans (Only.trans (Only.trans (Only.refl NoF w1013) o1030 (fun _ h => h.elim)) o1038 (fun _ h => h.elim)) o1045 (fun _ h => h.elim)) o1093 (fun _ h => h.elim)) o1105 (fun _ h => h.elim)) o' (fun _ h => h.elim))⟩) fun w1113 o1114 => ?_; clear Z az; intro az Z
   refine Pl.MSP (b := true) (by kernel_rfl) (fun W oW => r_pick Z rfl rfl rfl) Z rfl rfl ?_; clear Z az; intro az Z
   refine Pl.MSP (b := true) (by kernel_rfl) (fun W oW => r_mv Z rfl) Z rfl rfl ?_; clear Z az; intro az Z
   refine Pl.MSPT (b := true) (by kernel_rfl) Z rfl rfl (fun W oW => r_mv Z rfl) rfl rfl ?_; clear Z az; intro az Z
   have O1116 : Only NoF w w1113 := (Only.trans' (Only.trans' O1096 o1105) o1114)
   have G1115 := Gr.k hG O1116
   have O1117 : Only NoF w968 w1113 := (Only.trans' (Only.trans' O1097 o1105) o1114)
   have h1118 := (SliceOf.kp h990 O1117 (fun _ _ h => h) (fun _ _ _ _ h => h))
   have h1119 := SliceOf.pl h1118
   have r1120 := (ow_k (ow_k r1100 o1105) o1114)
   have nt1121 : NtV w1113 (.slice A99 (List.length ([mA, mB, mC, (mD A51), mE] : List NM)) 5) [mA, mB, mC, (mD A51), mE] := ⟨SliceOf.pl (Row.own KN0 r1120 (fun _ _ => trivial)), (ok_cons (okN_mk (by unfold I64; omega) (SliceOf.nil_ _ _ _) (by unfold maxLen; decide)) (ok_cons (okN_mk (by unfold I64; omega) (SliceOf.nil_ _ _ _) (by unfold maxLen; decide)) (ok_cons (okN_mk (by unfold I64; omega) (SliceOf.nil_ _ _ _) (by unfold maxLen; decide)) (ok_cons (okN_mk (by unfold I64; omega) h1119 (by unfold maxLen; decide)) (ok_cons (okN_mk (by unfold I64; omega) (SliceOf.nil_ _ _ _) (by unfold maxLen; decide)) OkNs.nil)))))⟩
   have hC1129 := Past_v_ G1115 nt1121 (by first | omega | (simp only [List.length_cons, List.length_nil]; omega)) 0
   refine Pl.MSCT Z rfl rfl rfl rfl rfl Tryz.call15 (hC1129) rfl ?_
   rintro e w1130 ⟨A1122, c1123, L1124, rfl, hL1125, hS1126, hN1127, o1128⟩; refine ⟨_, rfl, ⟨fun _ => (Only.trans' (Only.trans' (Only.trans' (Only.trans' (Only.trans' (Only.trans' o1030 o1038) o1045) o1093) o1105) o1114) o1128), (Only.trans (Only.trans (Only.trans (Only.trans (Only.trans (Only.trans (Only.trans (Only.refl NoF w1013) o1030 (fun _ h => h.elim)) o1038 (fun _ h => h.elim)) o1045 (fun _ h => h.elim)) o1093 (fun _ h => h.elim)) o1105 (fun _ h => h.elim)) o1114 (fun _ h => h.elim)) o1128 (fun _ h => h.elim))⟩, ?_⟩
   clear Z az; intro az Z
   have nt1131 : NtV w1130 (.slice A1122 (L1124.length) c1123) L1124 := ⟨SliceOf.pl hS1126, OkNs.pl hN1127⟩
   have hm1132 : L1124.length ≤ 1000000 := (pst_lim hL1125)
   refine Pl.MSPT (b := true) (by kernel_rfl) Z rfl rfl (fun W oW => r_len0 Tryz.underlying22 Z rfl (ns_nil hL1125 sm_13)) rfl rfl ?_; clear Z az; intro az Z
   refine Pl.MSPT (b := true) (by kernel_rfl) Z rfl rfl (fun W oW => r_eqRI Z rfl rfl) rfl rfl ?_; clear Z az; intro az Z
   refine Pl.MSP (b := true) (by kernel_rfl) (fun W oW => r_pick Z rfl rfl rfl) Z rfl rfl ?_; clear Z az; intro az Z
   refine Pl.MSP (b := true) (by kernel_rfl) (fun W oW => r_as Z rfl) Z rfl rfl ?_; clear Z az; intro az Z
   refine wpPl_nil ?_
   refine k1012 _ _ ?_
   refine wp_ret ?_
   show bodyPost _ _ _ .ret _ _
   refine ret_of (vs := [.bool (true)]) Z Tryz.results5 ⟨rfl, trivial⟩ ?_
   have O1133 : Only NoF w w1130 := (Only.trans' O1116 o1128)
   exact ⟨rfl, O1133⟩
 ·
  obtain ⟨A1134, w1135, hw, hA, r1136, o1137⟩ := Row.made (w := w1013) KN0 (e := 43) ([mC, (mD A51)] : List NM) (by simp only [List.length_cons, List.length_nil]; unfold maxLen; omega)
  refine Pl.MDT Z rfl rfl (r_bs (z := .agg #[.int .i64 (0), .int .i64 (0), .int .i64 (0), .slice none (0) 0, strV ([])]) (size := 5) (vs := [(0, .agg #[.int .i64 (1), .int .i64 (0), .int .i64 (4), .slice none (0) 0, strV ([])]), (1, .agg #[.int .i64 (1), .int .i64 (1), .int .i64 (4), .slice A51 (1) 1, strV ([])])]) (cs := List.flatMap KN0.cells [mC, (mD A51)]) Tryz.underlying22 Tryz.sizeOf43 Tryz.zeroValue43 rfl (Fr.evalps Z rfl) (by kernel_rfl)) rfl rfl ?_ ?_
  · rw [← hw]; exact ⟨fun _ => o1137, (Only.trans (Only.refl NoF w1013) o1137 (fun _ h => h.elim))⟩
  rw [← hw, ← hA]; clear Z az; intro az Z
  clear hw hA
  have ok1138 : ∀ zq ∈ ([mC, (mD A51)] : List NM), KN0.ok zq := by intro zq hx; simp only [List.mem_cons, List.not_mem_nil, or_false] at hx; rcases hx with rfl | rfl <;> first | exact trivial | exact trivial
  have O1140 : Only NoF w w1135 := (Only.trans' (Only.trans' (Only.trans' (Only.trans' (Only.trans' O986 o981) o1007) o1011) o1014) o1137)
  have G1139 := Gr.k hG O1140
  have O1141 : Only NoF w968 w1135 := (Only.trans' (Only.trans' (Only.trans' (Only.trans' o981 o1007) o1011) o1014) o1137)
  have h1142 := (SliceOf.kp h990 O1141 (fun _ _ h => h) (fun _ _ _ _ h => h))
  have h1143 := SliceOf.pl h1142
  have r1144 := (ow_k (ow_k (ow_k (ow_k (ow_k (ow_k (ow_k r101 o575) o969) o981) o1007) o1011) o1014) o1137)
  have nt1145 : NtV w1135 (.slice A99 (List.length ([mA, mB, mC, (mD A51), mE] : List NM)) 5) [mA, mB, mC, (mD A51), mE] := ⟨SliceOf.pl (Row.own KN0 r1144 (fun _ _ => trivial)), (ok_cons (okN_mk (by unfold I64; omega) (SliceOf.nil_ _ _ _) (by unfold maxLen; decide)) (ok_cons (okN_mk (by unfold I64; omega) (SliceOf.nil_ _ _ _) (by unfold maxLen; decide)) (ok_cons (okN_mk (by unfold I64; omega) (SliceOf.nil_ _ _ _) (by unfold maxLen; decide)) (ok_cons (okN_mk (by unfold I64; omega) h1143 (by unfold maxLen; decide)) (ok_cons (okN_mk (by unfold I64; omega) (SliceOf.nil_ _ _ _) (by unfold maxLen; decide)) OkNs.nil)))))⟩
  have hC1153 := Order_v_ G1139 nt1145 (by first | omega | (simp only [List.length_cons, List.length_nil]; omega))
  refine Pl.MSCT Z rfl rfl rfl rfl rfl Tryz.call17 (hC1153) rfl ?_
  rintro e w1154 ⟨A1146, c1147, L1148, rfl, hL1149, hS1150, hN1151, o1152⟩; refine ⟨_, rfl, ⟨fun _ => (Only.trans' o1137 o1152), (Only.trans (Only.trans (Only.refl NoF w1013) o1137 (fun _ h => h.elim)) o1152 (fun _ h => h.elim))⟩, ?_⟩
  clear Z az; intro az Z
  have nt1155 : NtV w1154 (.slice A1146 (L1148.length) c1147) L1148 := ⟨SliceOf.pl hS1150, OkNs.pl hN1151⟩
  have hm1156 : L1148.length ≤ 1000000 := (ord_lim hL1149 (by first | omega | (simp only [List.length_cons, List.length_nil]; omega)))
  have O1157 : Only NoF w968 w1154 := (Only.trans' O1141 o1152)
  have h1158 := (SliceOf.kp h990 O1157 (fun _ _ h => h) (fun _ _ _ _ h => h))
  have h1159 := SliceOf.pl h1158
  have r1160 := (ow_k r1136 o1152)
  have nt1161 : NtV w1154 (.slice A1134 (List.length ([mC, (mD A51)] : List NM)) 2) [mC, (mD A51)] := ⟨SliceOf.pl (Row.own KN0 r1160 (fun _ _ => trivial)), (ok_cons (okN_mk (by unfold I64; omega) (SliceOf.nil_ _ _ _) (by unfold maxLen; decide)) (ok_cons (okN_mk (by unfold I64; omega) h1159 (by unfold maxLen; decide)) OkNs.nil))⟩
  refine Pl.MSGV (v := .bool (true)) Z rfl rfl gd_t rfl rfl (fun hb => rfl) Tryz.call9 (fun hb => fix_eq (congrArg Value.bool (decide_eq_true (hL1149.trans sm_11))) (rSameChain_v (NtV.notes nt1155) (NtV.notes nt1161))) rfl (fun w' o' => ⟨fun _ => (Only.trans' (Only.trans' o1137 o1152) o'), (Only.trans (Only.trans (Only.trans (Only.refl NoF w1013) o1137 (fun _ h => h.elim)) o1152 (fun _ h => h.elim)) o' (fun _ h => h.elim))⟩) fun w1162 o1163 => ?_; clear Z az; intro az Z
  refine Pl.MSP (b := true) (by kernel_rfl) (fun W oW => r_pick Z rfl rfl rfl) Z rfl rfl ?_; clear Z az; intro az Z
  refine Pl.MSP (b := true) (by kernel_rfl) (fun W oW => r_mv Z rfl) Z rfl rfl ?_; clear Z az; intro az Z
  refine Pl.MSPT (b := true) (by kernel_rfl) Z rfl rfl (fun W oW => r_mv Z rfl) rfl rfl ?_; clear Z az; intro az Z
  refine wpPl_fork ?_ ?_
  ·
   have O1165 : Only NoF w w1162 := (Only.trans' (Only.trans' O1140 o1152) o1163)
   have G1164 := Gr.k hG O1165
   have O1166 : Only NoF w968 w1162 := (Only.trans' O1157 o1163)
   have h1167 := (SliceOf.kp h990 O1166 (fun _ _ h => h) (fun _ _ _ _ h => h))
   have h1168 := SliceOf.pl h1167
   have r1169 := (ow_k (ow_k r1144 o1152) o1163)
   have nt1170 : NtV w1162 (.slice A99 (List.length ([mA, mB, mC, (mD A51), mE] : List NM)) 5) [mA, mB, mC, (mD A51), mE] := ⟨SliceOf.pl (Row.own KN0 r1169 (fun _ _ => trivial)), (ok_cons (okN_mk (by unfold I64; omega) (SliceOf.nil_ _ _ _) (by unfold maxLen; decide)) (ok_cons (okN_mk (by unfold I64; omega) (SliceOf.nil_ _ _ _) (by unfold maxLen; decide)) (ok_cons (okN_mk (by unfold I64; omega) (SliceOf.nil_ _ _ _) (by unfold maxLen; decide)) (ok_cons (okN_mk (by unfold I64; omega) h1168 (by unfold maxLen; decide)) (ok_cons (okN_mk (by unfold I64; omega) (SliceOf.nil_ _ _ _) (by unfold maxLen; decide)) OkNs.nil)))))⟩
   have hC1175 := Forks_v_ G1164 nt1170 (by first | omega | (simp only [List.length_cons, List.length_nil]; omega))
   refine Pl.MSCT Z rfl rfl rfl rfl rfl Tryz.call13 (hC1175) rfl ?_
   rintro e w1176 ⟨A1171, c1172, rfl, r1173, o1174⟩; refine ⟨_, rfl, ⟨fun _ => (Only.trans' (Only.trans' (Only.trans' o1137 o1152) o1163) o1174), (Only.trans (Only.trans (Only.trans (Only.trans (Only.refl NoF w1013) o1137 (fun _ h => h.elim)) o1152 (fun _ h => h.elim)) o1163 (fun _ h => h.elim)) o1174 (fun _ h => h.elim))⟩, ?_⟩
   clear Z az; intro az Z
   obtain ⟨A1177, w1178, hw, hA, r1179, o1180⟩ := Row.made (w := w1176) KInt (e := 3) ([0] : List Int) (by simp only [List.length_cons, List.length_nil]; unfold maxLen; omega)
   refine Pl.MDT Z rfl rfl (r_bs (z := .int .i64 (0)) (size := 1) (vs := [(0, .int .i64 (0))]) (cs := List.flatMap KInt.cells [0]) Tryz.underlying30 Tryz.sizeOf3 Tryz.zeroValue3 rfl (Fr.evalps Z rfl) (by kernel_rfl)) rfl rfl ?_ ?_
   · rw [← hw]; exact ⟨fun _ => (Only.trans' (Only.trans' (Only.trans' (Only.trans' o1137 o1152) o1163) o1174) o1180), (Only.trans (Only.trans (Only.trans (Only.trans (Only.trans (Only.refl NoF w1013) o1137 (fun _ h => h.elim)) o1152 (fun _ h => h.elim)) o1163 (fun _ h => h.elim)) o1174 (fun _ h => h.elim)) o1180 (fun _ h => h.elim))⟩
   rw [← hw, ← hA]; clear Z az; intro az Z
   clear hw hA
   have ok1181 : ∀ zq ∈ ([0] : List Int), KInt.ok zq := by intro zq hx; simp only [List.mem_cons, List.not_mem_nil, or_false] at hx; rcases hx with rfl <;> first | exact (by show I64 (0); unfold I64; omega)
   have h1182 := Row.own KInt r1173 (forks_ok _)
   have h1183 := (SliceOf.kp h1182 o1180 (fun _ _ h => h) (fun _ _ _ _ h => h))
   have h1184 := SliceOf.pl h1183
   have h1185 := Row.own KInt r1179 ok1181
   have h1186 := SliceOf.pl h1185
   refine Pl.MSGV (v := .bool (true)) Z rfl rfl gd_t rfl rfl (fun hb => rfl) Tryz.call12 (fun hb => fix_eq (congrArg Value.bool (decide_eq_true sm_12)) (sameI_v_ h1184 h1186)) rfl (fun w' o' => ⟨fun _ => (Only.trans' (Only.trans' (Only.trans' (Only.trans' (Only.trans' o1137 o1152) o1163) o1174) o1180) o'), (Only.trans (Only.trans (Only.trans (Only.trans (Only.trans (Only.trans (Only.refl NoF w1013) o1137 (fun _ h => h.elim)) o1152 (fun _ h => h.elim)) o1163 (fun _ h => h.elim)) o1174 (fun _ h => h.elim)) o1180 (fun _ h => h.elim)) o' (fun _ h => h.elim))⟩) fun w1187 o1188 => ?_; clear Z az; intro az Z
   refine Pl.MSP (b := true) (by kernel_rfl) (fun W oW => r_pick Z rfl rfl rfl) Z rfl rfl ?_; clear Z az; intro az Z
   refine Pl.MSP (b := true) (by kernel_rfl) (fun W oW => r_mv Z rfl) Z rfl rfl ?_; clear Z az; intro az Z
   refine Pl.MSPT (b := true) (by kernel_rfl) Z rfl rfl (fun W oW => r_mv Z rfl) rfl rfl ?_; clear Z az; intro az Z
   have O1190 : Only NoF w w1187 := (Only.trans' (Only.trans' (Only.trans' O1165 o1174) o1180) o1188)
   have G1189 := Gr.k hG O1190
   have O1191 : Only NoF w968 w1187 := (Only.trans' (Only.trans' (Only.trans' O1166 o1174) o1180) o1188)
   have h1192 := (SliceOf.kp h990 O1191 (fun _ _ h => h) (fun _ _ _ _ h => h))
   have h1193 := SliceOf.pl h1192
   have r1194 := (ow_k (ow_k (ow_k r1169 o1174) o1180) o1188)
   have nt1195 : NtV w1187 (.slice A99 (List.length ([mA, mB, mC, (mD A51), mE] : List NM)) 5) [mA, mB, mC, (mD A51), mE] := ⟨SliceOf.pl (Row.own KN0 r1194 (fun _ _ => trivial)), (ok_cons (okN_mk (by unfold I64; omega) (SliceOf.nil_ _ _ _) (by unfold maxLen; decide)) (ok_cons (okN_mk (by unfold I64; omega) (SliceOf.nil_ _ _ _) (by unfold maxLen; decide)) (ok_cons (okN_mk (by unfold I64; omega) (SliceOf.nil_ _ _ _) (by unfold maxLen; decide)) (ok_cons (okN_mk (by unfold I64; omega) h1193 (by unfold maxLen; decide)) (ok_cons (okN_mk (by unfold I64; omega) (SliceOf.nil_ _ _ _) (by unfold maxLen; decide)) OkNs.nil)))))⟩
   have hC1203 := Past_v_ G1189 nt1195 (by first | omega | (simp only [List.length_cons, List.length_nil]; omega)) 0
   refine Pl.MSCT Z rfl rfl rfl rfl rfl Tryz.call15 (hC1203) rfl ?_
   rintro e w1204 ⟨A1196, c1197, L1198, rfl, hL1199, hS1200, hN1201, o1202⟩; refine ⟨_, rfl, ⟨fun _ => (Only.trans' (Only.trans' (Only.trans' (Only.trans' (Only.trans' (Only.trans' o1137 o1152) o1163) o1174) o1180) o1188) o1202), (Only.trans (Only.trans (Only.trans (Only.trans (Only.trans (Only.trans (Only.trans (Only.refl NoF w1013) o1137 (fun _ h => h.elim)) o1152 (fun _ h => h.elim)) o1163 (fun _ h => h.elim)) o1174 (fun _ h => h.elim)) o1180 (fun _ h => h.elim)) o1188 (fun _ h => h.elim)) o1202 (fun _ h => h.elim))⟩, ?_⟩
   clear Z az; intro az Z
   have nt1205 : NtV w1204 (.slice A1196 (L1198.length) c1197) L1198 := ⟨SliceOf.pl hS1200, OkNs.pl hN1201⟩
   have hm1206 : L1198.length ≤ 1000000 := (pst_lim hL1199)
   refine Pl.MSPT (b := true) (by kernel_rfl) Z rfl rfl (fun W oW => r_len0 Tryz.underlying22 Z rfl (ns_nil hL1199 sm_13)) rfl rfl ?_; clear Z az; intro az Z
   refine Pl.MSPT (b := true) (by kernel_rfl) Z rfl rfl (fun W oW => r_eqRI Z rfl rfl) rfl rfl ?_; clear Z az; intro az Z
   refine Pl.MSP (b := true) (by kernel_rfl) (fun W oW => r_pick Z rfl rfl rfl) Z rfl rfl ?_; clear Z az; intro az Z
   refine Pl.MSP (b := true) (by kernel_rfl) (fun W oW => r_as Z rfl) Z rfl rfl ?_; clear Z az; intro az Z
   refine wpPl_nil ?_
   refine k1012 _ _ ?_
   refine wp_ret ?_
   show bodyPost _ _ _ .ret _ _
   refine ret_of (vs := [.bool (true)]) Z Tryz.results5 ⟨rfl, trivial⟩ ?_
   have O1207 : Only NoF w w1204 := (Only.trans' O1190 o1202)
   exact ⟨rfl, O1207⟩
  ·
   obtain ⟨A1208, w1209, hw, hA, r1210, o1211⟩ := Row.made (w := w1162) KInt (e := 3) ([0] : List Int) (by simp only [List.length_cons, List.length_nil]; unfold maxLen; omega)
   refine Pl.MDT Z rfl rfl (r_bs (z := .int .i64 (0)) (size := 1) (vs := [(0, .int .i64 (0))]) (cs := List.flatMap KInt.cells [0]) Tryz.underlying30 Tryz.sizeOf3 Tryz.zeroValue3 rfl (Fr.evalps Z rfl) (by kernel_rfl)) rfl rfl ?_ ?_
   · rw [← hw]; exact ⟨fun _ => (Only.trans' (Only.trans' (Only.trans' o1137 o1152) o1163) o1211), (Only.trans (Only.trans (Only.trans (Only.trans (Only.refl NoF w1013) o1137 (fun _ h => h.elim)) o1152 (fun _ h => h.elim)) o1163 (fun _ h => h.elim)) o1211 (fun _ h => h.elim))⟩
   rw [← hw, ← hA]; clear Z az; intro az Z
   clear hw hA
   have ok1212 : ∀ zq ∈ ([0] : List Int), KInt.ok zq := by intro zq hx; simp only [List.mem_cons, List.not_mem_nil, or_false] at hx; rcases hx with rfl <;> first | exact (by show I64 (0); unfold I64; omega)
   have O1214 : Only NoF w w1209 := (Only.trans' (Only.trans' (Only.trans' O1140 o1152) o1163) o1211)
   have G1213 := Gr.k hG O1214
   have O1215 : Only NoF w968 w1209 := (Only.trans' (Only.trans' O1157 o1163) o1211)
   have h1216 := (SliceOf.kp h990 O1215 (fun _ _ h => h) (fun _ _ _ _ h => h))
   have h1217 := SliceOf.pl h1216
   have r1218 := (ow_k (ow_k (ow_k r1144 o1152) o1163) o1211)
   have nt1219 : NtV w1209 (.slice A99 (List.length ([mA, mB, mC, (mD A51), mE] : List NM)) 5) [mA, mB, mC, (mD A51), mE] := ⟨SliceOf.pl (Row.own KN0 r1218 (fun _ _ => trivial)), (ok_cons (okN_mk (by unfold I64; omega) (SliceOf.nil_ _ _ _) (by unfold maxLen; decide)) (ok_cons (okN_mk (by unfold I64; omega) (SliceOf.nil_ _ _ _) (by unfold maxLen; decide)) (ok_cons (okN_mk (by unfold I64; omega) (SliceOf.nil_ _ _ _) (by unfold maxLen; decide)) (ok_cons (okN_mk (by unfold I64; omega) h1217 (by unfold maxLen; decide)) (ok_cons (okN_mk (by unfold I64; omega) (SliceOf.nil_ _ _ _) (by unfold maxLen; decide)) OkNs.nil)))))⟩
   have hC1224 := Forks_v_ G1213 nt1219 (by first | omega | (simp only [List.length_cons, List.length_nil]; omega))
   refine Pl.MSCT Z rfl rfl rfl rfl rfl Tryz.call13 (hC1224) rfl ?_
   rintro e w1225 ⟨A1220, c1221, rfl, r1222, o1223⟩; refine ⟨_, rfl, ⟨fun _ => (Only.trans' (Only.trans' (Only.trans' (Only.trans' o1137 o1152) o1163) o1211) o1223), (Only.trans (Only.trans (Only.trans (Only.trans (Only.trans (Only.refl NoF w1013) o1137 (fun _ h => h.elim)) o1152 (fun _ h => h.elim)) o1163 (fun _ h => h.elim)) o1211 (fun _ h => h.elim)) o1223 (fun _ h => h.elim))⟩, ?_⟩
   clear Z az; intro az Z
   have h1226 := Row.own KInt r1222 (forks_ok _)
   have h1227 := SliceOf.pl h1226
   have h1228 := Row.own KInt r1210 ok1212
   have h1229 := (SliceOf.kp h1228 o1223 (fun _ _ h => h) (fun _ _ _ _ h => h))
   have h1230 := SliceOf.pl h1229
   refine Pl.MSGV (v := .bool (true)) Z rfl rfl gd_t rfl rfl (fun hb => rfl) Tryz.call12 (fun hb => fix_eq (congrArg Value.bool (decide_eq_true sm_12)) (sameI_v_ h1227 h1230)) rfl (fun w' o' => ⟨fun _ => (Only.trans' (Only.trans' (Only.trans' (Only.trans' (Only.trans' o1137 o1152) o1163) o1211) o1223) o'), (Only.trans (Only.trans (Only.trans (Only.trans (Only.trans (Only.trans (Only.refl NoF w1013) o1137 (fun _ h => h.elim)) o1152 (fun _ h => h.elim)) o1163 (fun _ h => h.elim)) o1211 (fun _ h => h.elim)) o1223 (fun _ h => h.elim)) o' (fun _ h => h.elim))⟩) fun w1231 o1232 => ?_; clear Z az; intro az Z
   refine Pl.MSP (b := true) (by kernel_rfl) (fun W oW => r_pick Z rfl rfl rfl) Z rfl rfl ?_; clear Z az; intro az Z
   refine Pl.MSP (b := true) (by kernel_rfl) (fun W oW => r_mv Z rfl) Z rfl rfl ?_; clear Z az; intro az Z
   refine Pl.MSPT (b := true) (by kernel_rfl) Z rfl rfl (fun W oW => r_mv Z rfl) rfl rfl ?_; clear Z az; intro az Z
   have O1234 : Only NoF w w1231 := (Only.trans' (Only.trans' O1214 o1223) o1232)
   have G1233 := Gr.k hG O1234
   have O1235 : Only NoF w968 w1231 := (Only.trans' (Only.trans' O1215 o1223) o1232)
   have h1236 := (SliceOf.kp h990 O1235 (fun _ _ h => h) (fun _ _ _ _ h => h))
   have h1237 := SliceOf.pl h1236
   have r1238 := (ow_k (ow_k r1218 o1223) o1232)
   have nt1239 : NtV w1231 (.slice A99 (List.length ([mA, mB, mC, (mD A51), mE] : List NM)) 5) [mA, mB, mC, (mD A51), mE] := ⟨SliceOf.pl (Row.own KN0 r1238 (fun _ _ => trivial)), (ok_cons (okN_mk (by unfold I64; omega) (SliceOf.nil_ _ _ _) (by unfold maxLen; decide)) (ok_cons (okN_mk (by unfold I64; omega) (SliceOf.nil_ _ _ _) (by unfold maxLen; decide)) (ok_cons (okN_mk (by unfold I64; omega) (SliceOf.nil_ _ _ _) (by unfold maxLen; decide)) (ok_cons (okN_mk (by unfold I64; omega) h1237 (by unfold maxLen; decide)) (ok_cons (okN_mk (by unfold I64; omega) (SliceOf.nil_ _ _ _) (by unfold maxLen; decide)) OkNs.nil)))))⟩
   have hC1247 := Past_v_ G1233 nt1239 (by first | omega | (simp only [List.length_cons, List.length_nil]; omega)) 0
   refine Pl.MSCT Z rfl rfl rfl rfl rfl Tryz.call15 (hC1247) rfl ?_
   rintro e w1248 ⟨A1240, c1241, L1242, rfl, hL1243, hS1244, hN1245, o1246⟩; refine ⟨_, rfl, ⟨fun _ => (Only.trans' (Only.trans' (Only.trans' (Only.trans' (Only.trans' (Only.trans' o1137 o1152) o1163) o1211) o1223) o1232) o1246), (Only.trans (Only.trans (Only.trans (Only.trans (Only.trans (Only.trans (Only.trans (Only.refl NoF w1013) o1137 (fun _ h => h.elim)) o1152 (fun _ h => h.elim)) o1163 (fun _ h => h.elim)) o1211 (fun _ h => h.elim)) o1223 (fun _ h => h.elim)) o1232 (fun _ h => h.elim)) o1246 (fun _ h => h.elim))⟩, ?_⟩
   clear Z az; intro az Z
   have nt1249 : NtV w1248 (.slice A1240 (L1242.length) c1241) L1242 := ⟨SliceOf.pl hS1244, OkNs.pl hN1245⟩
   have hm1250 : L1242.length ≤ 1000000 := (pst_lim hL1243)
   refine Pl.MSPT (b := true) (by kernel_rfl) Z rfl rfl (fun W oW => r_len0 Tryz.underlying22 Z rfl (ns_nil hL1243 sm_13)) rfl rfl ?_; clear Z az; intro az Z
   refine Pl.MSPT (b := true) (by kernel_rfl) Z rfl rfl (fun W oW => r_eqRI Z rfl rfl) rfl rfl ?_; clear Z az; intro az Z
   refine Pl.MSP (b := true) (by kernel_rfl) (fun W oW => r_pick Z rfl rfl rfl) Z rfl rfl ?_; clear Z az; intro az Z
   refine Pl.MSP (b := true) (by kernel_rfl) (fun W oW => r_as Z rfl) Z rfl rfl ?_; clear Z az; intro az Z
   refine wpPl_nil ?_
   refine k1012 _ _ ?_
   refine wp_ret ?_
   show bodyPost _ _ _ .ret _ _
   refine ret_of (vs := [.bool (true)]) Z Tryz.results5 ⟨rfl, trivial⟩ ?_
   have O1251 : Only NoF w w1248 := (Only.trans' O1234 o1246)
   exact ⟨rfl, O1251⟩
end Go.Proofs.YtdcbjedkddgfkaaGreatDoor
