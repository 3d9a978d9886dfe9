/-
  Rows of numbers and of texts among the arguments of the laws opened. No condition.
-/
import Derived.Test.YtdcbjedkddgfkaaDoorWOpen2
namespace Go.Proofs.YtdcbjedkddgfkaaDoor
set_option linter.unusedVariables false
set_option linter.unusedSimpArgs false
set_option linter.unusedSectionVars false
open Go.ChangeShapes Go.WideShapes Go.ChangeAt Go.RowKit Go.Deep
section
variable {H : Type} {enc : TypeId × Value → H} {w : World} {base : Nat} {spare : Nat → Bool} {held : Bool}
theorem open_IntsS {fuel : Nat} {cs : List Value} {x : DataW H × List MemPlace} (h : DataW.trod enc Tryd.prog w base spare held fuel 31 cs = some x) : ∃ v l, cs = [v] ∧ IntsV w v l := by
 obtain ⟨A, c, l, e, h⟩ := open_IntsV h
 exact ⟨_, l, e, h⟩
end
end Go.Proofs.YtdcbjedkddgfkaaDoor
