/-
  Values among the arguments of the wire's laws opened. No condition.
-/
import Derived.Test.YtgmnoianhonihaaDoorWVal
import Derived.Test.YtgmnoianhonihaaDoorWOpen
namespace Go.Proofs.YtgmnoianhonihaaDoor
set_option linter.unusedVariables false
set_option linter.unusedSimpArgs false
set_option linter.unusedSectionVars false
open Go.ChangeShapes Go.WideShapes Go.ChangeAt Go.RowKit Go.Deep

section
variable {H : Type} {enc : TypeId × Value → H} {w : World} {base : Nat} {spare : Nat → Bool} {held : Bool}
theorem cells_Val : Tryd.prog.cellsOf 25 = 5 := by kernel_rfl
theorem open_IntsV {fuel : Nat} {cs : List Value} {x : DataW H × List MemPlace} (h : DataW.trod enc Tryd.prog w base spare held fuel 22 cs = some x) : ∃ A c l, cs = [.slice A (List.length l) c] ∧ IntsV w (.slice A l.length c) l := by
  obtain ⟨v, l, e, h⟩ := open_Ints Tryd.underlying22 Tryd.underlying3 (by kernel_rfl) h
  obtain ⟨A, c, rfl, _⟩ := SliceOf.shape h
  exact ⟨A, c, l, e, h.sup fun _ _ => trivial⟩
theorem open_StrsV {fuel : Nat} {cs : List Value} {x : DataW H × List MemPlace} (h : DataW.trod enc Tryd.prog w base spare held fuel 23 cs = some x) : ∃ A c l, cs = [.slice A (List.length l) c] ∧ StrsV w (.slice A l.length c) l := by
  obtain ⟨v, l, e, h⟩ := open_Strs Tryd.underlying23 Tryd.underlying9 (by kernel_rfl) h
  obtain ⟨A, c, rfl, _⟩ := SliceOf.shape h
  exact ⟨A, c, l, e, h.sup fun _ _ => trivial⟩
theorem open_ValC {fuel : Nat} {cs : List Value} {x : DataW H × List MemPlace} (hl : cs.length = 5) (h : DataW.trod enc Tryd.prog w base spare held fuel 25 cs = some x) : ∃ m : VM, cs = (KVal w).cells m ∧ (KVal w).ok m := by
  obtain ⟨n', hf⟩ := trod_fields Tryd.underlying25 (by kernel_rfl) h hl
  match cs, hl with
  | [c0, c1, c2, c3, c4], _ =>
    obtain ⟨_, y0, k0, f0⟩ := hf 0 _ rfl
    obtain ⟨_, y1, k1, f1⟩ := hf 1 _ rfl
    obtain ⟨_, y2, k2, f2⟩ := hf 2 _ rfl
    obtain ⟨_, y3, k3, f3⟩ := hf 3 _ rfl
    obtain ⟨_, y4, k4, f4⟩ := hf 4 _ rfl
    simp only [List.getElem?_cons_zero, List.getElem?_cons_succ, Option.some.injEq] at k0 k1 k2 k3 k4
    subst k0 k1 k2 k3 k4
    obtain ⟨n0, h0, _, w0⟩ := DataW.trod_int Tryd.underlying3 f0
    obtain ⟨n1, h1, _, w1⟩ := DataW.trod_int Tryd.underlying3 f1
    obtain ⟨s2, h2, _, w2⟩ := DataW.trod_string Tryd.underlying9 f2
    obtain ⟨A3, d3, l3, h3, w3⟩ := open_IntsV f3
    obtain ⟨A4, d4, l4, h4, w4⟩ := open_StrsV f4
    simp only [List.cons.injEq, and_true] at h0 h1 h2 h3 h4
    subst h0 h1 h2 h3 h4
    exact ⟨⟨n0, n1, s2.data.toList, A3, l3, d3, A4, l4, d4⟩, rfl, wf_I64 w0, wf_I64 w1, by simpa using w2, w3, w4⟩
set_option maxRecDepth 100000 in
theorem open_Vals {fuel : Nat} {cs : List Value} {x : DataW H × List MemPlace} (h : DataW.trod enc Tryd.prog w base spare held fuel 28 cs = some x) : ∃ v l, cs = [v] ∧ ValsV w w v l := by
  obtain ⟨v, l, e, h⟩ := open_sliceOf Tryd.underlying28 cells_Val (by decide) (KVal w).R (fun n cs y hl hy => by
    obtain ⟨m, h1, h2⟩ := open_ValC hl hy
    exact ⟨m, h1, h2⟩) h
  exact ⟨v, l, e, h.sup fun _ _ => trivial⟩
set_option maxRecDepth 100000 in
theorem open_Val {r : Reach} {b0 : Nat} {v : Value} {d : DataW H} {p : List MemPlace} (hv : Value.okWide Tryd.prog w r b0 25 v) (h : DataW.Trod enc Tryd.prog w base spare held 25 v d p) : ∃ m : VM, v = .agg ((KVal w).cells m).toArray ∧ (KVal w).ok m := by
  obtain ⟨cs, rfl, hsz⟩ := okWide_struct Tryd.underlying25 hv
  obtain ⟨fuel, hf⟩ := h
  rw [cells_Val] at hsz
  have h5 : ((Value.agg cs).cells.toList).length = 5 := by rw [Array.length_toList]; exact hsz
  obtain ⟨m, h1, h2⟩ := open_ValC h5 hf
  refine ⟨m, ?_, h2⟩
  have e : (Value.agg cs).cells.toList = cs.toList := rfl
  rw [← h1, e, Array.toArray_toList]
end
end Go.Proofs.YtgmnoianhonihaaDoor
