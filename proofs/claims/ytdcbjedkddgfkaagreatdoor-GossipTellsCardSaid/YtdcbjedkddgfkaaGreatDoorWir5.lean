/-
  The reference's reader: what its parts compute against the wire's model. No condition but those written.
-/
import Derived.Test.YtdcbjedkddgfkaaGreatDoorWX
import Derived.Test.YtdcbjedkddgfkaaGreatDoorWir2
namespace Go.Proofs.YtdcbjedkddgfkaaGreatDoor
set_option linter.unusedVariables false
set_option linter.unusedSimpArgs false
set_option linter.unusedSectionVars false
open Go.RowKit
namespace Wr
/-! ### ahead -/
/-! ### close, text -/
end Wr
section
variable {P : Program} {w : World} {n : Nat} {l : List (Nat × Value)} {a : Act} {dst : Option Tmp} {ty : TypeId} {pos : String} {aft : Array Edge} {g : Option (Nat × Bool)} {x y : Operand}
end
theorem tf (b : Bool) : b = false ∨ b = true := by cases b <;> simp
end Go.Proofs.YtdcbjedkddgfkaaGreatDoor
