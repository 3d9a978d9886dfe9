/-
  What a list of steps that a row's argument holds reads as. No condition.
-/
import Derived.Test.YtdcbjedkddgfkaaDoorGOp
import Derived.Test.YtdcbjedkddgfkaaDoorGpM
namespace Go.Proofs.YtdcbjedkddgfkaaDoor
set_option linter.unusedVariables false
set_option linter.unusedSimpArgs false
set_option linter.unusedSectionVars false
open Go.ChangeShapes Go.WideShapes Go.ChangeAt Go.RowKit Go.Deep Go.Joins
section
variable {H : Type} {enc : TypeId × Value → H} {w : World} {base : Nat} {spare : Nat → Bool} {held : Bool}
theorem cells_Step : Tryd.prog.cellsOf 55 = 3 := by kernel_rfl
theorem open_StepC {fuel : Nat} {cs : List Value} {x : DataW H × List MemPlace} (hl : cs.length = 3) (h : DataW.trod enc Tryd.prog w base spare held fuel 55 cs = some x) : ∃ m : TM, cs = KStp.cells m ∧ KStp.ok m := by
 obtain ⟨n', hf⟩ := trod_fields Tryd.underlying55 (by kernel_rfl) h hl
 match cs, hl with
 | [c0, c1, c2], _ =>
  obtain ⟨_, y0, k0, f0⟩ := hf 0 _ rfl
  obtain ⟨_, y1, k1, f1⟩ := hf 1 _ rfl
  obtain ⟨_, y2, k2, f2⟩ := hf 2 _ rfl
  simp only [List.getElem?_cons_zero, List.getElem?_cons_succ, Option.some.injEq] at k0 k1 k2
  subst k0 k1 k2
  obtain ⟨n0, h0, _, w0⟩ := DataW.trod_int Tryd.underlying3 f0
  obtain ⟨n1, h1, _, w1⟩ := DataW.trod_int Tryd.underlying3 f1
  obtain ⟨n2, h2, _, w2⟩ := DataW.trod_int Tryd.underlying3 f2
  simp only [List.cons.injEq, and_true] at h0 h1 h2
  subst h0 h1 h2
  exact ⟨⟨n0, n1, n2⟩, rfl, wf_I64 w0, wf_I64 w1, wf_I64 w2⟩
theorem open_Steps {fuel : Nat} {cs : List Value} {x : DataW H × List MemPlace} (h : DataW.trod enc Tryd.prog w base spare held fuel 53 cs = some x) : ∃ v l, cs = [v] ∧ SliceOf AllB 3 KStp.R w v l := by
 obtain ⟨v, l, e, h⟩ := open_sliceOf Tryd.underlying53 cells_Step (by decide) KStp.R (fun n cs y hl hy => by
  obtain ⟨m, h1, h2⟩ := open_StepC hl hy
  exact ⟨m, h1, h2⟩) h
 exact ⟨v, l, e, h.sup fun _ _ => trivial⟩
end
end Go.Proofs.YtdcbjedkddgfkaaDoor
