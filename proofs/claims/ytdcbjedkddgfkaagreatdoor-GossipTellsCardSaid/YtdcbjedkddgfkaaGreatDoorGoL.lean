/-
  Gossip: small things for the laws' walks. No condition.
-/
import Derived.Test.YtdcbjedkddgfkaaGreatDoorGo16
namespace Go.Proofs.YtdcbjedkddgfkaaGreatDoor
set_option linter.unusedVariables false
set_option linter.unusedSimpArgs false
set_option linter.unusedSectionVars false
open Go.RowKit
theorem r_cast {P : Program} {w : World} {ρ : Operand → Value} {o : Oper} {x b : Bool} (h : (execOp ρ o).run P w = .ok (.value (.bool x)) w) (e : x = b) : (execOp ρ o).run P w = .ok (.value (.bool b)) w := by
 subst e; exact h
theorem r_castI {P : Program} {w : World} {ρ : Operand → Value} {o : Oper} {k : IntKind} {x b : Int} (h : (execOp ρ o).run P w = .ok (.value (.int k x)) w) (e : x = b) : (execOp ρ o).run P w = .ok (.value (.int k b)) w := by
 subst e; exact h
section
variable {P : Program} {w : World} {n : Nat} {l : List (Nat × Value)} {a : Act} {dst : Option Tmp} {ty : TypeId} {pos : String} {aft : Array Edge} {g : Option (Nat × Bool)} {x y : Operand}
end
section
variable {a b a2 b2 A C L : List NM}
end
section
variable {α : Type} {l : List α} {k : Nat} {m : α} {p : α → Prop}
theorem tk_step (h : ∀ x ∈ l.take k, p x) (hm : l[k]? = some m) (h1 : p m) : ∀ x ∈ l.take (k + 1), p x := fun x hx => by
 rw [take_succ_get hm, List.mem_append, List.mem_singleton] at hx
 rcases hx with h2 | h2
 · exact h x h2
 · rw [h2]; exact h1
theorem tk_nil : ∀ x ∈ l.take 0, p x := fun x hx => by rw [List.take_zero] at hx; cases hx
end
theorem miss_len (J : List NM) : (missN J).length ≤ 400 := by
 unfold missN
 rw [List.length_map]
 exact Nat.le_trans (List.length_filter_le _ _) (by rw [List.length_range]; exact Nat.le_refl _)
end Go.Proofs.YtdcbjedkddgfkaaGreatDoor
