/-
  The arguments of the wire's laws opened. No condition.
-/
import Derived.Test.YtlnadcihnfppaaaGreatDoorWBase
import Derived.Test.YtlnadcihnfppaaaGreatDoorOpen
import Derived.Lib.SmallJoins
namespace Go.Proofs.YtlnadcihnfppaaaGreatDoor
set_option linter.unusedVariables false
set_option linter.unusedSimpArgs false
set_option linter.unusedSectionVars false
theorem laidOut : laidOutB Tryz.prog = true := by kernel_rfl
end Go.Proofs.YtlnadcihnfppaaaGreatDoor
