/-
  Values among the arguments of the wire's laws opened. No condition.
-/
import Derived.Test.YtdcbjedkddgfkaaDoorWU
import Derived.Test.YtdcbjedkddgfkaaDoorWOpen
namespace Go.Proofs.YtdcbjedkddgfkaaDoor
set_option linter.unusedVariables false
set_option linter.unusedSimpArgs false
set_option linter.unusedSectionVars false
open Go.ChangeShapes Go.WideShapes Go.ChangeAt Go.RowKit Go.Deep
section
variable {H : Type} {enc : TypeId × Value → H} {w : World} {base : Nat} {spare : Nat → Bool} {held : Bool}
theorem open_IntsV {fuel : Nat} {cs : List Value} {x : DataW H × List MemPlace} (h : DataW.trod enc Tryd.prog w base spare held fuel 31 cs = some x) : ∃ A c l, cs = [.slice A (List.length l) c] ∧ IntsV w (.slice A l.length c) l := by
 obtain ⟨v, l, e, h⟩ := open_Ints Tryd.underlying31 Tryd.underlying3 (by kernel_rfl) h
 obtain ⟨A, c, rfl, _⟩ := SliceOf.shape h
 exact ⟨A, c, l, e, h.sup fun _ _ => trivial⟩
end
end Go.Proofs.YtdcbjedkddgfkaaDoor
