/-
  For the walks of the wire's laws. No condition: plain lemmas.
-/
import Derived.Test.YtdegmpigkgkafaaGreatDoorWU
namespace Go.Proofs.YtdegmpigkgkafaaGreatDoor
set_option linter.unusedVariables false
set_option linter.unusedSimpArgs false
set_option linter.unusedSectionVars false
open Go.RowKit
section
variable {P : Program} {w : World} {n : Nat} {l : List (Nat × Value)} {a : Act} {dst : Option Tmp} {ty : TypeId} {pos : String} {aft : Array Edge} {g : Option (Nat × Bool)} {x y : Operand}
theorem r_eqRBu {t yt : TypeId} {b : Bool} (hu : P.underlying t = some .bool) (H : Fr n l a) (hx : ev l x = some (.bool b)) (hy : ev l y = some (.bool b)) : (execOp a.eval ⟨dst, .binOp .eql t x y yt, ty, pos, aft, g⟩).run P w = .ok (.value (.bool true)) w := by
 have := r_eqB (P := P) (w := w) (dst := dst) (ty := ty) (pos := pos) (aft := aft) (g := g) (t := t) (yt := yt) hu H hx hy
 rwa [decide_eq_true rfl] at this
end
end Go.Proofs.YtdegmpigkgkafaaGreatDoor
