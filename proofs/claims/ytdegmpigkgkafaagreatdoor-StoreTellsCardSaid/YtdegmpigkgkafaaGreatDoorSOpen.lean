/-
  Notes among the arguments of the seal's laws opened. No condition.
-/
import Derived.Test.YtdegmpigkgkafaaGreatDoorSA
import Derived.Test.YtdegmpigkgkafaaGreatDoorJOp
namespace Go.Proofs.YtdegmpigkgkafaaGreatDoor
set_option linter.unusedVariables false
set_option linter.unusedSimpArgs false
set_option linter.unusedSectionVars false
open Go.ChangeShapes Go.WideShapes Go.ChangeAt Go.RowKit Go.Deep
section
variable {H : Type} {enc : TypeId × Value → H} {w : World} {base : Nat} {spare : Nat → Bool} {held : Bool}
theorem cells_Ref : Tryz.prog.cellsOf 53 = 2 := by kernel_rfl
theorem open_RefC {fuel : Nat} {cs : List Value} {x : DataW H × List MemPlace} (hl : cs.length = 2) (h : DataW.trod enc Tryz.prog w base spare held fuel 53 cs = some x) : ∃ m : RM, cs = KRef.cells m ∧ KRef.ok m := by
 obtain ⟨n', hf⟩ := trod_fields Tryz.underlying53 (by kernel_rfl) h hl
 match cs, hl with
 | [c0, c1], _ =>
  obtain ⟨_, y0, k0, f0⟩ := hf 0 _ rfl
  obtain ⟨_, y1, k1, f1⟩ := hf 1 _ rfl
  simp only [List.getElem?_cons_zero, List.getElem?_cons_succ, Option.some.injEq] at k0 k1
  subst k0 k1
  obtain ⟨n0, h0, _, w0⟩ := DataW.trod_int Tryz.underlying3 f0
  obtain ⟨n1, h1, _, w1⟩ := DataW.trod_int Tryz.underlying3 f1
  simp only [List.cons.injEq, and_true] at h0 h1
  subst h0 h1
  exact ⟨⟨n0, n1⟩, rfl, wf_I64 w0, wf_I64 w1⟩
theorem open_RefsS {fuel : Nat} {cs : List Value} {x : DataW H × List MemPlace} (h : DataW.trod enc Tryz.prog w base spare held fuel 36 cs = some x) : ∃ v l, cs = [v] ∧ RefsV w v l := by
 obtain ⟨v, l, e, h⟩ := open_sliceOf Tryz.underlying36 cells_Ref (by decide) KRef.R (fun n cs y hl hy => by
  obtain ⟨m, h1, h2⟩ := open_RefC hl hy
  exact ⟨m, h1, h2⟩) h
 exact ⟨v, l, e, h.sup fun _ _ => trivial⟩
theorem open_RefsV {fuel : Nat} {cs : List Value} {x : DataW H × List MemPlace} (h : DataW.trod enc Tryz.prog w base spare held fuel 36 cs = some x) : ∃ A c l, cs = [.slice A (List.length l) c] ∧ RefsV w (.slice A l.length c) l := by
 obtain ⟨v, l, e, h⟩ := open_RefsS h
 obtain ⟨A, c, rfl, _⟩ := SliceOf.shape h
 exact ⟨A, c, l, e, h⟩
end
end Go.Proofs.YtdegmpigkgkafaaGreatDoor
