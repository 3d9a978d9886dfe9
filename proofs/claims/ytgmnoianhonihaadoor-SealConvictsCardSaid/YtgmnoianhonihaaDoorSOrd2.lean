/-
  SealOrder: it returns true. No condition but the listed variables.
-/
import Derived.Test.YtgmnoianhonihaaDoorSOrder
import Derived.Test.YtgmnoianhonihaaDoorSW6
namespace Go.Proofs.YtgmnoianhonihaaDoor
set_option linter.unusedVariables false
set_option linter.unusedSimpArgs false
set_option linter.unusedSectionVars false
open Go.RowKit

theorem order_v {w : World} (hG : Gr w) {v : Value} {l : List NM} (h : NotesV w w v l) : Calls Tryd.prog 13 #[v] w (Fix (.bool true) w) := by
  obtain ⟨A1, c1, rfl, _⟩ := SliceOf.shape h
  exact order_v_ hG (fun _ hG => small37_v hG) h
end Go.Proofs.YtgmnoianhonihaaDoor
