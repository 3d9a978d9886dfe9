/-
  A comparison of a thing with itself. No condition.
-/
import Derived.Test.YtocbfobakmieoaaLkF5
namespace Go.Proofs.Ytocbfobakmieoaa
set_option linter.unusedVariables false
set_option linter.unusedSimpArgs false
set_option linter.unusedSectionVars false
open Go.RowKit
/-- blocks made between two worlds -/
def rgB (lo hi : Nat) : Nat → Prop := fun k => lo ≤ k ∧ k < hi
theorem SliceOf.rg {α : Type} {size : Nat} {R : World → List Value → α → Prop} {l : List α} {w : World} {v : Value} {lo : Nat} (h : SliceOf (geB lo) size R w v l) : SliceOf (rgB lo w.heap.size) size R w v l := by
  obtain ⟨A, cap, xs, e, h1, h2, h3, h4⟩ := h
  refine ⟨A, cap, xs, e, h1, h2, ⟨h3.1, fun hn => ?_⟩, h4⟩
  obtain ⟨ad, e, hg, hlt, hc⟩ := h3.2 hn
  exact ⟨ad, e, ⟨hg, hlt⟩, hlt, hc⟩
section
variable {P : Program} {w : World} {n : Nat} {l : List (Nat × Value)} {a : Act} {dst : Option Tmp} {ty : TypeId} {pos : String} {aft : Array Edge} {g : Option (Nat × Bool)} {x y : Operand}
theorem r_eqRI {k : IntKind} {p : Int} {t yt : TypeId} (H : Fr n l a) (hx : ev l x = some (.int k p)) (hy : ev l y = some (.int k p)) : (execOp a.eval ⟨dst, .binOp .eql t x y yt, ty, pos, aft, g⟩).run P w = .ok (.value (.bool true)) w := by
  have := r_eqI (P := P) (w := w) (dst := dst) (ty := ty) (pos := pos) (aft := aft) (g := g) (t := t) (yt := yt) H hx hy
  rwa [decide_eq_true rfl] at this
theorem r_neRI {k : IntKind} {p : Int} {t yt : TypeId} (H : Fr n l a) (hx : ev l x = some (.int k p)) (hy : ev l y = some (.int k p)) : (execOp a.eval ⟨dst, .binOp .neq t x y yt, ty, pos, aft, g⟩).run P w = .ok (.value (.bool false)) w := by
  have := r_neI (P := P) (w := w) (dst := dst) (ty := ty) (pos := pos) (aft := aft) (g := g) (t := t) (yt := yt) H hx hy
  rwa [decide_eq_true rfl] at this
theorem r_eqRB {b : Bool} {t yt : TypeId} (he : ∀ w, (binOp .eql t (.bool b) (.bool b)).run P w = .ok (.bool true) w) (H : Fr n l a) (hx : ev l x = some (.bool b)) (hy : ev l y = some (.bool b)) : (execOp a.eval ⟨dst, .binOp .eql t x y yt, ty, pos, aft, g⟩).run P w = .ok (.value (.bool true)) w := by
  have hg : (eqGuard .eql t x y (.bool b) (.bool b)).run P w = .ok () w := by simp [eqGuard]
  simp only [execOp, H.eval hx, H.eval hy, Sem.run_bind, hg, Result.andThen_ok, he, Sem.run_pure]
end
theorem eqBool (b : Bool) (w : World) : (binOp .eql 4 (.bool b) (.bool b)).run Try.prog w = .ok (.bool true) w := by
  cases b <;> kernel_rfl
end Go.Proofs.Ytocbfobakmieoaa
