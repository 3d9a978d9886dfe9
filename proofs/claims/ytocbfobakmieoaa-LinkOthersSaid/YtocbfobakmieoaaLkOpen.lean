/-
  The arguments of the link's laws opened: rows of messages, pairs and events. No condition.
-/
import Derived.Test.YtocbfobakmieoaaLkRep
import Derived.Test.YtocbfobakmieoaaOpen
import Derived.Lib.SmallJoins
namespace Go.Proofs.Ytocbfobakmieoaa
set_option linter.unusedVariables false
set_option linter.unusedSimpArgs false
set_option linter.unusedSectionVars false
open Go.ChangeShapes Go.WideShapes Go.ChangeAt Go.RowKit Go.Deep

theorem cells_Msg : Try.prog.cellsOf 27 = 3 := by kernel_rfl
theorem cells_Pr : Try.prog.cellsOf 60 = 2 := by kernel_rfl
theorem cells_Ev : Try.prog.cellsOf 48 = 4 := by kernel_rfl
theorem cells_Air : Try.prog.cellsOf 25 = 2 := by kernel_rfl
theorem laidOut : laidOutB Try.prog = true := by kernel_rfl

section
variable {H : Type} {enc : TypeId × Value → H} {w : World} {base : Nat} {spare : Nat → Bool} {held : Bool}
theorem open_Msgs {fuel : Nat} {cs : List Value} {x : DataW H × List MemPlace} (h : DataW.trod enc Try.prog w base spare held fuel 22 cs = some x) : ∃ v l, cs = [v] ∧ Msgs w v l := by
  obtain ⟨v, l, e, h⟩ := open_sliceOf Try.underlying22 cells_Msg (by decide) RMsg (fun n cs y hl hy => by
    obtain ⟨n', hf⟩ := trod_fields Try.underlying27 (by kernel_rfl) hy hl
    match cs, hl with
    | [c0, c1, c2], _ =>
      obtain ⟨_, y0, k0, f0⟩ := hf 0 _ rfl
      obtain ⟨_, y1, k1, f1⟩ := hf 1 _ rfl
      obtain ⟨_, y2, k2, f2⟩ := hf 2 _ rfl
      simp only [List.getElem?_cons_zero, List.getElem?_cons_succ, Option.some.injEq] at k0 k1 k2
      subst k0 k1 k2
      obtain ⟨n0, h0, _, w0⟩ := DataW.trod_int Try.underlying3 f0
      obtain ⟨n1, h1, _, w1⟩ := DataW.trod_int Try.underlying3 f1
      obtain ⟨s2, h2, _, w2⟩ := DataW.trod_string Try.underlying9 f2
      simp only [List.cons.injEq, and_true] at h0 h1 h2
      subst h0 h1 h2
      exact ⟨⟨n0, n1, s2.data.toList⟩, rfl, wf_I64 w0, wf_I64 w1, by simpa using w2⟩) h
  exact ⟨v, l, e, h.sup fun _ _ => trivial⟩
theorem open_Prs {fuel : Nat} {cs : List Value} {x : DataW H × List MemPlace} (h : DataW.trod enc Try.prog w base spare held fuel 23 cs = some x) : ∃ v l, cs = [v] ∧ Prs w v l := by
  obtain ⟨v, l, e, h⟩ := open_sliceOf Try.underlying23 cells_Pr (by decide) RPr (fun n cs y hl hy => by
    obtain ⟨n', hf⟩ := trod_fields Try.underlying60 (by kernel_rfl) hy hl
    match cs, hl with
    | [c0, c1], _ =>
      obtain ⟨_, y0, k0, f0⟩ := hf 0 _ rfl
      obtain ⟨_, y1, k1, f1⟩ := hf 1 _ rfl
      simp only [List.getElem?_cons_zero, List.getElem?_cons_succ, Option.some.injEq] at k0 k1
      subst k0 k1
      obtain ⟨n0, h0, _, w0⟩ := DataW.trod_int Try.underlying3 f0
      obtain ⟨n1, h1, _, w1⟩ := DataW.trod_int Try.underlying3 f1
      simp only [List.cons.injEq, and_true] at h0 h1
      subst h0 h1
      exact ⟨⟨n0, n1⟩, rfl, wf_I64 w0, wf_I64 w1⟩) h
  exact ⟨v, l, e, h.sup fun _ _ => trivial⟩
theorem open_Evs {fuel : Nat} {cs : List Value} {x : DataW H × List MemPlace} (h : DataW.trod enc Try.prog w base spare held fuel 28 cs = some x) : ∃ v l, cs = [v] ∧ Evs w v l := by
  obtain ⟨v, l, e, h⟩ := open_sliceOf Try.underlying28 cells_Ev (by decide) REv (fun n cs y hl hy => by
    obtain ⟨n', hf⟩ := trod_fields Try.underlying48 (by kernel_rfl) hy hl
    match cs, hl with
    | [c0, c1, c2, c3], _ =>
      obtain ⟨_, y0, k0, f0⟩ := hf 0 _ rfl
      obtain ⟨_, y1, k1, f1⟩ := hf 1 _ rfl
      obtain ⟨_, y2, k2, f2⟩ := hf 2 _ rfl
      obtain ⟨_, y3, k3, f3⟩ := hf 3 _ rfl
      simp only [List.getElem?_cons_zero, List.getElem?_cons_succ, Option.some.injEq] at k0 k1 k2 k3
      subst k0 k1 k2 k3
      obtain ⟨n0, h0, _, w0⟩ := DataW.trod_int Try.underlying3 f0
      obtain ⟨n1, h1, _, w1⟩ := DataW.trod_int Try.underlying3 f1
      obtain ⟨n2, h2, _, w2⟩ := DataW.trod_int Try.underlying3 f2
      obtain ⟨s3, h3, _, w3⟩ := DataW.trod_string Try.underlying9 f3
      simp only [List.cons.injEq, and_true] at h0 h1 h2 h3
      subst h0 h1 h2 h3
      exact ⟨⟨n0, n1, n2, s3.data.toList⟩, rfl, wf_I64 w0, wf_I64 w1, wf_I64 w2, by simpa using w3⟩) h
  exact ⟨v, l, e, h.sup fun _ _ => trivial⟩
end
end Go.Proofs.Ytocbfobakmieoaa
