/-
  Notes among the arguments of the seal's laws opened. No condition.
-/
import Derived.Test.YtdcbjedkddgfkaaGreatDoorSA
import Derived.Test.YtdcbjedkddgfkaaGreatDoorWU
import Derived.Test.YtdcbjedkddgfkaaGreatDoorWOpen
namespace Go.Proofs.YtdcbjedkddgfkaaGreatDoor
set_option linter.unusedVariables false
set_option linter.unusedSimpArgs false
set_option linter.unusedSectionVars false
open Go.ChangeShapes Go.WideShapes Go.ChangeAt Go.RowKit Go.Deep
section
variable {H : Type} {enc : TypeId × Value → H} {w : World} {base : Nat} {spare : Nat → Bool} {held : Bool}
theorem cells_Note : Tryz.prog.cellsOf 43 = 5 := by kernel_rfl
theorem cells_Ref : Tryz.prog.cellsOf 59 = 2 := by kernel_rfl
theorem open_RefC {fuel : Nat} {cs : List Value} {x : DataW H × List MemPlace} (hl : cs.length = 2) (h : DataW.trod enc Tryz.prog w base spare held fuel 59 cs = some x) : ∃ m : RM, cs = KRef.cells m ∧ KRef.ok m := by
 obtain ⟨n', hf⟩ := trod_fields Tryz.underlying59 (by kernel_rfl) h hl
 match cs, hl with
 | [c0, c1], _ =>
  obtain ⟨_, y0, k0, f0⟩ := hf 0 _ rfl
  obtain ⟨_, y1, k1, f1⟩ := hf 1 _ rfl
  simp only [List.getElem?_cons_zero, List.getElem?_cons_succ, Option.some.injEq] at k0 k1
  subst k0 k1
  obtain ⟨n0, h0, _, w0⟩ := DataW.trod_int Tryz.underlying3 f0
  obtain ⟨n1, h1, _, w1⟩ := DataW.trod_int Tryz.underlying3 f1
  simp only [List.cons.injEq, and_true] at h0 h1
  subst h0 h1
  exact ⟨⟨n0, n1⟩, rfl, wf_I64 w0, wf_I64 w1⟩
theorem open_RefsS {fuel : Nat} {cs : List Value} {x : DataW H × List MemPlace} (h : DataW.trod enc Tryz.prog w base spare held fuel 35 cs = some x) : ∃ v l, cs = [v] ∧ RefsV w v l := by
 obtain ⟨v, l, e, h⟩ := open_sliceOf Tryz.underlying35 cells_Ref (by decide) KRef.R (fun n cs y hl hy => by
  obtain ⟨m, h1, h2⟩ := open_RefC hl hy
  exact ⟨m, h1, h2⟩) h
 exact ⟨v, l, e, h.sup fun _ _ => trivial⟩
theorem open_RefsV {fuel : Nat} {cs : List Value} {x : DataW H × List MemPlace} (h : DataW.trod enc Tryz.prog w base spare held fuel 35 cs = some x) : ∃ A c l, cs = [.slice A (List.length l) c] ∧ RefsV w (.slice A l.length c) l := by
 obtain ⟨v, l, e, h⟩ := open_RefsS h
 obtain ⟨A, c, rfl, _⟩ := SliceOf.shape h
 exact ⟨A, c, l, e, h⟩
theorem open_NoteC {fuel : Nat} {cs : List Value} {x : DataW H × List MemPlace} (hl : cs.length = 5) (h : DataW.trod enc Tryz.prog w base spare held fuel 43 cs = some x) : ∃ m : NM, cs = (KNote w).cells m ∧ (KNote w).ok m := by
 obtain ⟨n', hf⟩ := trod_fields Tryz.underlying43 (by kernel_rfl) h hl
 match cs, hl with
 | [c0, c1, c2, c3, c4], _ =>
  obtain ⟨_, y0, k0, f0⟩ := hf 0 _ rfl
  obtain ⟨_, y1, k1, f1⟩ := hf 1 _ rfl
  obtain ⟨_, y2, k2, f2⟩ := hf 2 _ rfl
  obtain ⟨_, y3, k3, f3⟩ := hf 3 _ rfl
  obtain ⟨_, y4, k4, f4⟩ := hf 4 _ rfl
  simp only [List.getElem?_cons_zero, List.getElem?_cons_succ, Option.some.injEq] at k0 k1 k2 k3 k4
  subst k0 k1 k2 k3 k4
  obtain ⟨n0, h0, _, w0⟩ := DataW.trod_int Tryz.underlying3 f0
  obtain ⟨n1, h1, _, w1⟩ := DataW.trod_int Tryz.underlying3 f1
  obtain ⟨n2, h2, _, w2⟩ := DataW.trod_int Tryz.underlying3 f2
  obtain ⟨A3, d3, l3, h3, w3⟩ := open_RefsV f3
  obtain ⟨s4, h4, _, w4⟩ := DataW.trod_string Tryz.underlying9 f4
  simp only [List.cons.injEq, and_true] at h0 h1 h2 h3 h4
  subst h0 h1 h2 h3 h4
  exact ⟨⟨n0, n1, n2, A3, l3, d3, s4.data.toList⟩, rfl, wf_I64 w0, wf_I64 w1, wf_I64 w2, w3, by simpa using w4⟩
set_option maxRecDepth 100000 in
theorem open_Notes {fuel : Nat} {cs : List Value} {x : DataW H × List MemPlace} (h : DataW.trod enc Tryz.prog w base spare held fuel 22 cs = some x) : ∃ v l, cs = [v] ∧ NotesV w w v l := by
 obtain ⟨v, l, e, h⟩ := open_sliceOf Tryz.underlying22 cells_Note (by decide) (KNote w).R (fun n cs y hl hy => by
  obtain ⟨m, h1, h2⟩ := open_NoteC hl hy
  exact ⟨m, h1, h2⟩) h
 exact ⟨v, l, e, h.sup fun _ _ => trivial⟩
end
end Go.Proofs.YtdcbjedkddgfkaaGreatDoor
