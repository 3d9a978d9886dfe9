/-
  What a list of events that a row's argument holds reads as. No condition.
-/
import Derived.Test.YtdcbjedkddgfkaaGreatDoorWU
import Derived.Test.YtdcbjedkddgfkaaGreatDoorWOpen
import Derived.Test.YtdcbjedkddgfkaaGreatDoorLC
import Derived.Test.YtdcbjedkddgfkaaGreatDoorOpen
import Derived.Lib.SmallJoins
namespace Go.Proofs.YtdcbjedkddgfkaaGreatDoor
set_option linter.unusedVariables false
set_option linter.unusedSimpArgs false
set_option linter.unusedSectionVars false
open Go.ChangeShapes Go.WideShapes Go.ChangeAt Go.RowKit Go.Deep Go.Joins
theorem cells_Ev : Tryz.prog.cellsOf 45 = 4 := by kernel_rfl
section
variable {H : Type} {enc : TypeId × Value → H} {w : World} {base : Nat} {spare : Nat → Bool} {held : Bool}
theorem open_Evs {fuel : Nat} {cs : List Value} {x : DataW H × List MemPlace} (h : DataW.trod enc Tryz.prog w base spare held fuel 38 cs = some x) : ∃ v l, cs = [v] ∧ Evs w v l := by
 obtain ⟨v, l, e, h⟩ := open_sliceOf Tryz.underlying38 cells_Ev (by decide) REv (fun n cs y hl hy => by
  obtain ⟨n', hf⟩ := trod_fields Tryz.underlying45 (by kernel_rfl) hy hl
  match cs, hl with
  | [c0, c1, c2, c3], _ =>
   obtain ⟨_, y0, k0, f0⟩ := hf 0 _ rfl
   obtain ⟨_, y1, k1, f1⟩ := hf 1 _ rfl
   obtain ⟨_, y2, k2, f2⟩ := hf 2 _ rfl
   obtain ⟨_, y3, k3, f3⟩ := hf 3 _ rfl
   simp only [List.getElem?_cons_zero, List.getElem?_cons_succ, Option.some.injEq] at k0 k1 k2 k3
   subst k0 k1 k2 k3
   obtain ⟨n0, h0, _, w0⟩ := DataW.trod_int Tryz.underlying3 f0
   obtain ⟨n1, h1, _, w1⟩ := DataW.trod_int Tryz.underlying3 f1
   obtain ⟨n2, h2, _, w2⟩ := DataW.trod_int Tryz.underlying3 f2
   obtain ⟨s3, h3, _, w3⟩ := DataW.trod_string Tryz.underlying9 f3
   simp only [List.cons.injEq, and_true] at h0 h1 h2 h3
   subst h0 h1 h2 h3
   exact ⟨⟨n0, n1, n2, s3.data.toList⟩, rfl, wf_I64 w0, wf_I64 w1, wf_I64 w2, by simpa using w3⟩) h
 exact ⟨v, l, e, h.sup fun _ _ => trivial⟩
end
end Go.Proofs.YtdcbjedkddgfkaaGreatDoor
