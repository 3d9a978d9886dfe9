/-
  The reference's reader: what its parts compute against the wire's model. No condition but those written.
-/
import Derived.Test.YtdcbjedkddgfkaaDoorWir3
import Derived.Test.YtdcbjedkddgfkaaDoorWir2
namespace Go.Proofs.YtdcbjedkddgfkaaDoor
set_option linter.unusedVariables false
set_option linter.unusedSimpArgs false
set_option linter.unusedSectionVars false
open Go.RowKit
namespace Wr
/-! ### ahead -/
/-! ### close, text -/
end Wr
section
variable {P : Program} {w : World} {n : Nat} {l : List (Nat × Value)} {a : Act} {dst : Option Tmp} {ty : TypeId} {pos : String} {aft : Array Edge} {g : Option (Nat × Bool)} {x y : Operand}
theorem r_cvJ {src dt : TypeId} {u : TypeDesc} {p : Int} (hs : P.underlying src = some u) (hd : P.underlying dt = some (.int .i64)) (H : Fr n l a) (hx : ev l x = some (.int .u8 p)) (hp : 0 ≤ p ∧ p < 256) :
 (execOp a.eval ⟨dst, .convert src dt x, ty, pos, aft, g⟩).run P w = .ok (.value (.int .i64 p)) w := by
 have h := run_convert_int w src dt .u8 p (by rw [hs]; rfl) (by unfold Program.intKind; rw [hd])
 have e : P.intKind dt = .i64 := by unfold Program.intKind; rw [hd]
 have e2 : IntKind.i64.wrap p = p := IntWalk.i64_in _ ⟨by omega, by omega⟩
 rw [e, e2] at h
 simp [execOp, H.eval hx, h]
end
end Go.Proofs.YtdcbjedkddgfkaaDoor
