/-
  The arguments of the wire's laws opened. No condition.
-/
import Derived.Test.YtdcbjedkddgfkaaDoorWBase
import Derived.Test.YtdcbjedkddgfkaaDoorOpen
import Derived.Lib.SmallJoins
namespace Go.Proofs.YtdcbjedkddgfkaaDoor
set_option linter.unusedVariables false
set_option linter.unusedSimpArgs false
set_option linter.unusedSectionVars false
theorem laidOut : laidOutB Tryd.prog = true := by kernel_rfl
end Go.Proofs.YtdcbjedkddgfkaaDoor
