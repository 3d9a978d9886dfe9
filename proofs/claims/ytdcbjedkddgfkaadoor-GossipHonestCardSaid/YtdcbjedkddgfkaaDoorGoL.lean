/-
  Gossip: small things for the laws' walks. No condition.
-/
import Derived.Test.YtdcbjedkddgfkaaDoorGo16
namespace Go.Proofs.YtdcbjedkddgfkaaDoor
set_option linter.unusedVariables false
set_option linter.unusedSimpArgs false
set_option linter.unusedSectionVars false
open Go.RowKit
theorem r_cast {P : Program} {w : World} {ρ : Operand → Value} {o : Oper} {x b : Bool} (h : (execOp ρ o).run P w = .ok (.value (.bool x)) w) (e : x = b) : (execOp ρ o).run P w = .ok (.value (.bool b)) w := by
 subst e; exact h
section
variable {P : Program} {w : World} {n : Nat} {l : List (Nat × Value)} {a : Act} {dst : Option Tmp} {ty : TypeId} {pos : String} {aft : Array Edge} {g : Option (Nat × Bool)} {x y : Operand}
end
section
variable {a b a2 b2 A C L : List NM}
theorem good_map (h : GoodN a) : a.map ns = a := by
 have : a.map ns = a.map id := List.map_congr_left fun x hx => (h x hx).2
 rw [this, List.map_id]
theorem join_app_ns (h : a.map ns = a2.map ns) (h2 : b.map ns = b2.map ns) : joinN (a ++ b) = joinN (a2 ++ b2) := join_ns2 (by rw [List.map_append, List.map_append, h, h2])
theorem talk_a2 (h : A.map ns = lessN (joinN b) (joinN a)) : joinN (a ++ A) = joinN (a ++ b) :=
 (join_app_ns rfl (h.trans (good_map less_good).symm)).trans (talk_a a b)
end
section
variable {α : Type} {l : List α} {k : Nat} {m : α} {p : α → Prop}
end
theorem miss_len (J : List NM) : (missN J).length ≤ 400 := by
 unfold missN
 rw [List.length_map]
 exact Nat.le_trans (List.length_filter_le _ _) (by rw [List.length_range]; exact Nat.le_refl _)
end Go.Proofs.YtdcbjedkddgfkaaDoor
