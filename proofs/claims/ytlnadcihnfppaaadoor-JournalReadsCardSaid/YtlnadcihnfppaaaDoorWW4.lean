/-
  The wire's reader: lists, walked. Condition: at most 1,000,000 bytes are left, and a reader that has failed has none.
-/
import Derived.Test.YtlnadcihnfppaaaDoorWir3
namespace Go.Proofs.YtlnadcihnfppaaaDoor
set_option linter.unusedVariables false
set_option linter.unusedSimpArgs false
set_option linter.unusedSectionVars false
open Go.RowKit

def ListTo {α : Type} (g : Nat) (K : Row α) (e : TypeId) (l : List α) (s : Wr.Rd) (w : World) (x : Ending) (w' : World) : Prop :=
  ∃ A c, x = .returned (.slice A l.length c) ∧ w'.ownsRow w.heap.size e 1 (.slice A l.length c) l.length (l.flatMap K.cells) ∧ (∀ z ∈ l, K.ok z) ∧ Blk w' g 70 [strV s.r, .bool s.b].toArray ∧ Only (oneF g) w w'
theorem text_ok {s : Wr.Rd} (h : s.r.length ≤ 1000000000) : (Wr.text s).1.length ≤ maxLen := by
  have := Wr.text_val_len s
  unfold maxLen; omega
end Go.Proofs.YtlnadcihnfppaaaDoor
