/-
  The argument '[]Act' of the disk's laws opened. No condition.
-/
import Derived.Test.YtddmgkppefhlbaaDskL1
import Derived.Test.YtddmgkppefhlbaaOpen
namespace Go.Proofs.Ytddmgkppefhlbaa
set_option linter.unusedVariables false
set_option linter.unusedSimpArgs false
set_option linter.unusedSectionVars false
open Go.ChangeShapes Go.WideShapes Go.ChangeAt Go.RowKit Go.Deep

theorem cells_int : Try.prog.cellsOf 3 = 1 := by kernel_rfl
theorem cells_string : Try.prog.cellsOf 9 = 1 := by kernel_rfl
theorem cells_sint : Try.prog.cellsOf 31 = 1 := by kernel_rfl
theorem cells_Act : Try.prog.cellsOf 33 = 5 := by kernel_rfl
theorem laidOut : laidOutB Try.prog = true := by kernel_rfl

section
variable {H : Type} {enc : TypeId × Value → H} {w : World} {base : Nat} {spare : Nat → Bool} {held : Bool}
theorem open_Acts {fuel : Nat} {cs : List Value} {x : DataW H × List MemPlace} (h : DataW.trod enc Try.prog w base spare held fuel 22 cs = some x) : ∃ v l, cs = [v] ∧ Acts (oldB w) w v l :=
  open_sliceOf Try.underlying22 cells_Act (by decide) (RAct (oldB w)) (fun n cs y hl hy => by
    obtain ⟨n', hf⟩ := trod_fields Try.underlying33 (by kernel_rfl) hy hl
    match cs, hl with
    | [c0, c1, c2, c3, c4], _ =>
      obtain ⟨_, y0, k0, f0⟩ := hf 0 _ rfl
      obtain ⟨_, y1, k1, f1⟩ := hf 1 _ rfl
      obtain ⟨_, y2, k2, f2⟩ := hf 2 _ rfl
      obtain ⟨_, y3, k3, f3⟩ := hf 3 _ rfl
      obtain ⟨_, y4, k4, f4⟩ := hf 4 _ rfl
      simp only [List.getElem?_cons_zero, List.getElem?_cons_succ, Option.some.injEq] at k0 k1 k2 k3 k4
      subst k0 k1 k2 k3 k4
      obtain ⟨n0, h0, _, w0⟩ := DataW.trod_int Try.underlying3 f0
      obtain ⟨n1, h1, _, w1⟩ := DataW.trod_int Try.underlying3 f1
      obtain ⟨n2, h2, _, w2⟩ := DataW.trod_int Try.underlying3 f2
      obtain ⟨s3, h3, _, w3⟩ := DataW.trod_string Try.underlying9 f3
      obtain ⟨v4, l4, h4, w4⟩ := open_Ints Try.underlying31 Try.underlying3 cells_int f4
      simp only [List.cons.injEq, and_true] at h0 h1 h2 h3 h4
      subst h0 h1 h2 h3 h4
      exact ⟨⟨n0, n1, n2, s3.data.toList, l4⟩, _, rfl, wf_I64 w0, wf_I64 w1, wf_I64 w2, by simpa using w3, w4⟩) h
theorem open_keep {fuel : Nat} {cs : List Value} {x : DataW H × List MemPlace} (h : DataW.trod enc Try.prog w base spare held fuel 31 cs = some x) : ∃ v l, cs = [v] ∧ Ints (oldB w) w v l :=
  open_Ints Try.underlying31 Try.underlying3 cells_int h
end
end Go.Proofs.Ytddmgkppefhlbaa
