/-
  The arguments of the wire's laws opened. No condition.
-/
import Derived.Test.YtdcbjedkddgfkaaGreatDoorWBase
import Derived.Test.YtdcbjedkddgfkaaGreatDoorOpen
import Derived.Lib.SmallJoins
namespace Go.Proofs.YtdcbjedkddgfkaaGreatDoor
set_option linter.unusedVariables false
set_option linter.unusedSimpArgs false
set_option linter.unusedSectionVars false
theorem laidOut : laidOutB Tryz.prog = true := by kernel_rfl
end Go.Proofs.YtdcbjedkddgfkaaGreatDoor
