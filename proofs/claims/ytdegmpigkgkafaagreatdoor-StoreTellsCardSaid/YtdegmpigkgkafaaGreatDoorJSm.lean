/-
  The journal's law: small, walked. No condition but the listed variables.
-/
import Derived.Test.YtdegmpigkgkafaaGreatDoorJB
namespace Go.Proofs.YtdegmpigkgkafaaGreatDoor
set_option linter.unusedVariables false
set_option linter.unusedSimpArgs false
set_option linter.unusedSectionVars false
open Go.RowKit
theorem r_eqSh {P : Program} {w : World} {n : Nat} {l : List (Nat × Value)} {a : Act} {dst : Option Tmp} {ty : TypeId} {pos : String} {aft : Array Edge} {g : Option (Nat × Bool)} {x y : Operand} {t yt : TypeId} {s s2 : Str} (H : Fr n l a) (hx : ev l x = some (strV s)) (hy : ev l y = some (strV s2)) (hs : s = s2) :
 (execOp a.eval ⟨dst, .binOp .eql t x y yt, ty, pos, aft, g⟩).run P w = .ok (.value (.bool true)) w := by
 subst hs
 have := r_eqS (P := P) (w := w) (dst := dst) (ty := ty) (pos := pos) (aft := aft) (g := g) (t := t) (yt := yt) H hx hy
 rwa [decide_eq_true rfl] at this
end Go.Proofs.YtdegmpigkgkafaaGreatDoor
