/-
  Values among the arguments of the wire's laws opened. No condition.
  Rows of numbers and of texts among the arguments of the laws opened. No condition.
  Operations among the arguments of the journal's laws opened. No condition.
-/
import Derived.Test.YtdegmpigkgkafaaGreatDoorWU
import Derived.Test.YtdegmpigkgkafaaGreatDoorWOpen
import Derived.Test.YtdegmpigkgkafaaGreatDoorJC
namespace Go.Proofs.YtdegmpigkgkafaaGreatDoor
set_option linter.unusedVariables false
set_option linter.unusedSimpArgs false
set_option linter.unusedSectionVars false
section
open Go.ChangeShapes Go.WideShapes Go.ChangeAt Go.RowKit Go.Deep
section
variable {H : Type} {enc : TypeId × Value → H} {w : World} {base : Nat} {spare : Nat → Bool} {held : Bool}
theorem open_IntsV {fuel : Nat} {cs : List Value} {x : DataW H × List MemPlace} (h : DataW.trod enc Tryz.prog w base spare held fuel 37 cs = some x) : ∃ A c l, cs = [.slice A (List.length l) c] ∧ IntsV w (.slice A l.length c) l := by
 obtain ⟨v, l, e, h⟩ := open_Ints Tryz.underlying37 Tryz.underlying3 (by kernel_rfl) h
 obtain ⟨A, c, rfl, _⟩ := SliceOf.shape h
 exact ⟨A, c, l, e, h.sup fun _ _ => trivial⟩
end
end
section
open Go.ChangeShapes Go.WideShapes Go.ChangeAt Go.RowKit Go.Deep
section
variable {H : Type} {enc : TypeId × Value → H} {w : World} {base : Nat} {spare : Nat → Bool} {held : Bool}
theorem open_IntsS {fuel : Nat} {cs : List Value} {x : DataW H × List MemPlace} (h : DataW.trod enc Tryz.prog w base spare held fuel 37 cs = some x) : ∃ v l, cs = [v] ∧ IntsV w v l := by
 obtain ⟨A, c, l, e, h⟩ := open_IntsV h
 exact ⟨_, l, e, h⟩
end
end
section
open Go.ChangeShapes Go.WideShapes Go.ChangeAt Go.RowKit Go.Deep
section
variable {H : Type} {enc : TypeId × Value → H} {w : World} {base : Nat} {spare : Nat → Bool} {held : Bool}
end
end
end Go.Proofs.YtdegmpigkgkafaaGreatDoor
