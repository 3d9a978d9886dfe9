/-
  The arguments of the wire's laws opened. No condition.
-/
import Derived.Test.YtlnadcihnfppaaaDoorWBase
import Derived.Test.YtlnadcihnfppaaaDoorOpen
import Derived.Lib.SmallJoins
namespace Go.Proofs.YtlnadcihnfppaaaDoor
set_option linter.unusedVariables false
set_option linter.unusedSimpArgs false
set_option linter.unusedSectionVars false
theorem laidOut : laidOutB Tryd.prog = true := by kernel_rfl
end Go.Proofs.YtlnadcihnfppaaaDoor
