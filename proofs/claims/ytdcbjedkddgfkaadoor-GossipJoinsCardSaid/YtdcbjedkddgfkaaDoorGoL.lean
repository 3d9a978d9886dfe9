/-
  Gossip: small things for the laws' walks. No condition.
-/
import Derived.Test.YtdcbjedkddgfkaaDoorGo16
namespace Go.Proofs.YtdcbjedkddgfkaaDoor
set_option linter.unusedVariables false
set_option linter.unusedSimpArgs false
set_option linter.unusedSectionVars false
open Go.RowKit
theorem r_cast {P : Program} {w : World} {ρ : Operand → Value} {o : Oper} {x b : Bool} (h : (execOp ρ o).run P w = .ok (.value (.bool x)) w) (e : x = b) : (execOp ρ o).run P w = .ok (.value (.bool b)) w := by
 subst e; exact h
theorem r_castI {P : Program} {w : World} {ρ : Operand → Value} {o : Oper} {k : IntKind} {x b : Int} (h : (execOp ρ o).run P w = .ok (.value (.int k x)) w) (e : x = b) : (execOp ρ o).run P w = .ok (.value (.int k b)) w := by
 subst e; exact h
section
variable {P : Program} {w : World} {n : Nat} {l : List (Nat × Value)} {a : Act} {dst : Option Tmp} {ty : TypeId} {pos : String} {aft : Array Edge} {g : Option (Nat × Bool)} {x y : Operand}
theorem r_neB {t yt : TypeId} {p q : Bool} (hu : P.underlying t = some .bool) (H : Fr n l a) (hx : ev l x = some (.bool p)) (hy : ev l y = some (.bool q)) : (execOp a.eval ⟨dst, .binOp .neq t x y yt, ty, pos, aft, g⟩).run P w = .ok (.value (.bool (!decide (p = q)))) w := by
 have h : (binOp .neq t (.bool p) (.bool q)).run P w = .ok (.bool (!decide (p = q))) w := by
  have := eq_bool (P := P) (w := w) (t := t) (b := p) (c := q) hu
  simp only [binOp, Sem.run_bind, this, Result.andThen_ok]
  simp
  cases p <;> cases q <;> rfl
 simp [execOp, H.eval hx, H.eval hy, eqGuard, h]
end
section
variable {a b a2 b2 A C L : List NM}
theorem good_map (h : GoodN a) : a.map ns = a := by
 have : a.map ns = a.map id := List.map_congr_left fun x hx => (h x hx).2
 rw [this, List.map_id]
theorem join_app_ns (h : a.map ns = a2.map ns) (h2 : b.map ns = b2.map ns) : joinN (a ++ b) = joinN (a2 ++ b2) := join_ns2 (by rw [List.map_append, List.map_append, h, h2])
theorem talk_a2 (h : A.map ns = lessN (joinN b) (joinN a)) : joinN (a ++ A) = joinN (a ++ b) :=
 (join_app_ns rfl (h.trans (good_map less_good).symm)).trans (talk_a a b)
theorem talk_b2 (h : A.map ns = lessN (joinN a) (joinN b)) : joinN (A ++ b) = joinN (a ++ b) :=
 (join_app_ns (h.trans (good_map less_good).symm) rfl).trans (talk_b a b)
theorem talk_end {x y : List NM} (hx : x.map ns = joinN L) (hy : y.map ns = joinN L) : lessN (joinN x) (joinN y) = [] := by
 rw [join_ns hx, join_ns hy]; exact less_self _
theorem join_l (h : A.map ns = joinN L) (C : List NM) : joinN (A ++ C) = joinN (L ++ C) :=
 (join_app_ns (h.trans (good_map (join_good L)).symm) rfl).trans (join_app_l L C)
theorem join_r (h : A.map ns = joinN L) (C : List NM) : joinN (C ++ A) = joinN (C ++ L) :=
 (join_app_ns rfl (h.trans (good_map (join_good L)).symm)).trans (join_app_r C L)
end
section
variable {α : Type} {l : List α} {k : Nat} {m : α} {p : α → Prop}
theorem tk_step (h : ∀ x ∈ l.take k, p x) (hm : l[k]? = some m) (h1 : p m) : ∀ x ∈ l.take (k + 1), p x := fun x hx => by
 rw [take_succ_get hm, List.mem_append, List.mem_singleton] at hx
 rcases hx with h2 | h2
 · exact h x h2
 · rw [h2]; exact h1
theorem tk_all (h : ∀ x ∈ l.take k, p x) (hk : l.length ≤ k) : ∀ x ∈ l, p x := by
 rw [List.take_of_length_le hk] at h; exact h
theorem tk_nil : ∀ x ∈ l.take 0, p x := fun x hx => by rw [List.take_zero] at hx; cases hx
theorem rem_nat {a n : Int} (ha : 0 ≤ a) (hn : 0 < n) : ∃ q : Nat, Int.tmod a n = (q : Int) ∧ (q : Int) < n :=
 ⟨(Int.tmod a n).toNat, by have := Int.tmod_nonneg n ha; omega, by have := Int.tmod_nonneg n ha; have := Int.tmod_lt_of_pos a hn; omega⟩
end
/-- neighbours in an ascending list of references -/
theorem asc_adj {N : List RM} {i : Nat} {a b : RM} (h : N.Pairwise fun x y => x.h < y.h) (h0 : 0 < i) (ha : N[i - 1]? = some a) (hb : N[i]? = some b) : a.h < b.h := by
 obtain ⟨a1, a2⟩ := List.getElem?_eq_some_iff.1 ha
 obtain ⟨b1, b2⟩ := List.getElem?_eq_some_iff.1 hb
 have := List.pairwise_iff_getElem.1 h (i - 1) i a1 b1 (by omega)
 rw [a2, b2] at this
 exact this
theorem miss_len (J : List NM) : (missN J).length ≤ 400 := by
 unfold missN
 rw [List.length_map]
 exact Nat.le_trans (List.length_filter_le _ _) (by rw [List.length_range]; exact Nat.le_refl _)
theorem hasI_no {F : List Int} {x : Int} (h : hasI F x = false) : ¬ x ∈ F := of_decide_eq_false h
end Go.Proofs.YtdcbjedkddgfkaaDoor
