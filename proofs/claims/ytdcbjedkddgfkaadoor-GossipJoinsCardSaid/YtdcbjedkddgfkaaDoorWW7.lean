/-
  For the walks of the wire's laws. No condition: plain lemmas.
-/
import Derived.Test.YtdcbjedkddgfkaaDoorWU
namespace Go.Proofs.YtdcbjedkddgfkaaDoor
set_option linter.unusedVariables false
set_option linter.unusedSimpArgs false
set_option linter.unusedSectionVars false
open Go.RowKit
section
variable {P : Program} {w : World} {n : Nat} {l : List (Nat × Value)} {a : Act} {dst : Option Tmp} {ty : TypeId} {pos : String} {aft : Array Edge} {g : Option (Nat × Bool)} {x y : Operand}
theorem r_eqRBu {t yt : TypeId} {b : Bool} (hu : P.underlying t = some .bool) (H : Fr n l a) (hx : ev l x = some (.bool b)) (hy : ev l y = some (.bool b)) : (execOp a.eval ⟨dst, .binOp .eql t x y yt, ty, pos, aft, g⟩).run P w = .ok (.value (.bool true)) w := by
 have := r_eqB (P := P) (w := w) (dst := dst) (ty := ty) (pos := pos) (aft := aft) (g := g) (t := t) (yt := yt) hu H hx hy
 rwa [decide_eq_true rfl] at this
end
theorem vals_up {w w' W : World} {v : Value} {l : List VM} (h : SliceOf AllB 5 (KVal w).R W v l) (o : Only NoF w w') : SliceOf AllB 5 (KVal w').R W v l :=
 SliceOf.only h (Only.refl NoF W) (fun _ _ h => h) fun cs x _ hR => ⟨hR.1, hR.2.1, hR.2.2.1, hR.2.2.2.1, SliceOf.kp hR.2.2.2.2.1 o (fun _ _ h => h) (fun _ _ _ _ h => h), SliceOf.kp hR.2.2.2.2.2 o (fun _ _ h => h) (fun _ _ _ _ h => h)⟩
theorem flat_drop_le {α : Type} (f : α → Str) (l : List α) (k : Nat) : ((l.drop k).flatMap f).length ≤ (l.flatMap f).length := by
 conv => rhs; rw [← List.take_append_drop k l, List.flatMap_append, List.length_append]
 omega
theorem done_eq (t : Str) : Wr.done ⟨t, false⟩ = decide (t = []) := by simp [Wr.done]
end Go.Proofs.YtdcbjedkddgfkaaDoor
