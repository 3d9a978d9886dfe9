/-
  Values among the arguments of the wire's laws opened. No condition.
  Rows of numbers and of texts among the arguments of the laws opened. No condition.
  Operations among the arguments of the journal's laws opened. No condition.
-/
import Derived.Test.YtlnadcihnfppaaaGreatDoorWU
import Derived.Test.YtlnadcihnfppaaaGreatDoorWOpen
import Derived.Test.YtlnadcihnfppaaaGreatDoorJC
namespace Go.Proofs.YtlnadcihnfppaaaGreatDoor
set_option linter.unusedVariables false
set_option linter.unusedSimpArgs false
set_option linter.unusedSectionVars false
section
open Go.ChangeShapes Go.WideShapes Go.ChangeAt Go.RowKit Go.Deep

section
variable {H : Type} {enc : TypeId × Value → H} {w : World} {base : Nat} {spare : Nat → Bool} {held : Bool}
theorem open_IntsV {fuel : Nat} {cs : List Value} {x : DataW H × List MemPlace} (h : DataW.trod enc Tryz.prog w base spare held fuel 36 cs = some x) : ∃ A c l, cs = [.slice A (List.length l) c] ∧ IntsV w (.slice A l.length c) l := by
  obtain ⟨v, l, e, h⟩ := open_Ints Tryz.underlying36 Tryz.underlying3 (by kernel_rfl) h
  obtain ⟨A, c, rfl, _⟩ := SliceOf.shape h
  exact ⟨A, c, l, e, h.sup fun _ _ => trivial⟩
theorem open_StrsV {fuel : Nat} {cs : List Value} {x : DataW H × List MemPlace} (h : DataW.trod enc Tryz.prog w base spare held fuel 46 cs = some x) : ∃ A c l, cs = [.slice A (List.length l) c] ∧ StrsV w (.slice A l.length c) l := by
  obtain ⟨v, l, e, h⟩ := open_Strs Tryz.underlying46 Tryz.underlying9 (by kernel_rfl) h
  obtain ⟨A, c, rfl, _⟩ := SliceOf.shape h
  exact ⟨A, c, l, e, h.sup fun _ _ => trivial⟩
end
end
section
open Go.ChangeShapes Go.WideShapes Go.ChangeAt Go.RowKit Go.Deep

section
variable {H : Type} {enc : TypeId × Value → H} {w : World} {base : Nat} {spare : Nat → Bool} {held : Bool}
theorem open_IntsS {fuel : Nat} {cs : List Value} {x : DataW H × List MemPlace} (h : DataW.trod enc Tryz.prog w base spare held fuel 36 cs = some x) : ∃ v l, cs = [v] ∧ IntsV w v l := by
  obtain ⟨A, c, l, e, h⟩ := open_IntsV h
  exact ⟨_, l, e, h⟩
theorem open_StrsS {fuel : Nat} {cs : List Value} {x : DataW H × List MemPlace} (h : DataW.trod enc Tryz.prog w base spare held fuel 46 cs = some x) : ∃ v l, cs = [v] ∧ StrsV w v l := by
  obtain ⟨A, c, l, e, h⟩ := open_StrsV h
  exact ⟨_, l, e, h⟩
end
end
section
open Go.ChangeShapes Go.WideShapes Go.ChangeAt Go.RowKit Go.Deep

section
variable {H : Type} {enc : TypeId × Value → H} {w : World} {base : Nat} {spare : Nat → Bool} {held : Bool}
theorem cells_Op : Tryz.prog.cellsOf 38 = 4 := by kernel_rfl
theorem open_IntsO {fuel : Nat} {cs : List Value} {x : DataW H × List MemPlace} (h : DataW.trod enc Tryz.prog w base spare held fuel 36 cs = some x) : ∃ A c l, cs = [.slice A (List.length l) c] ∧ IntsV w (.slice A l.length c) l := by
  obtain ⟨v, l, e, h⟩ := open_IntsS h
  obtain ⟨A, c, rfl, _⟩ := SliceOf.shape h
  exact ⟨A, c, l, e, h⟩
theorem open_OpC {fuel : Nat} {cs : List Value} {x : DataW H × List MemPlace} (hl : cs.length = 4) (h : DataW.trod enc Tryz.prog w base spare held fuel 38 cs = some x) : ∃ m : OpM, cs = (KOp w).cells m ∧ (KOp w).ok m := by
  obtain ⟨n', hf⟩ := trod_fields Tryz.underlying38 (by kernel_rfl) h hl
  match cs, hl with
  | [c0, c1, c2, c3], _ =>
    obtain ⟨_, y0, k0, f0⟩ := hf 0 _ rfl
    obtain ⟨_, y1, k1, f1⟩ := hf 1 _ rfl
    obtain ⟨_, y2, k2, f2⟩ := hf 2 _ rfl
    obtain ⟨_, y3, k3, f3⟩ := hf 3 _ rfl
    simp only [List.getElem?_cons_zero, List.getElem?_cons_succ, Option.some.injEq] at k0 k1 k2 k3
    subst k0 k1 k2 k3
    obtain ⟨n0, h0, _, w0⟩ := DataW.trod_int Tryz.underlying3 f0
    obtain ⟨s1, h1, _, w1⟩ := DataW.trod_string Tryz.underlying9 f1
    obtain ⟨n2, h2, _, w2⟩ := DataW.trod_int Tryz.underlying3 f2
    obtain ⟨A3, d3, l3, h3, w3⟩ := open_IntsO f3
    simp only [List.cons.injEq, and_true] at h0 h1 h2 h3
    subst h0 h1 h2 h3
    exact ⟨⟨n0, s1.data.toList, n2, A3, l3, d3⟩, rfl, wf_I64 w0, by simpa using w1, wf_I64 w2, w3⟩
set_option maxRecDepth 100000 in
theorem open_Ops {fuel : Nat} {cs : List Value} {x : DataW H × List MemPlace} (h : DataW.trod enc Tryz.prog w base spare held fuel 22 cs = some x) : ∃ v l, cs = [v] ∧ OpsV w w v l := by
  obtain ⟨v, l, e, h⟩ := open_sliceOf Tryz.underlying22 cells_Op (by decide) (KOp w).R (fun n cs y hl hy => by
    obtain ⟨m, h1, h2⟩ := open_OpC hl hy
    exact ⟨m, h1, h2⟩) h
  exact ⟨v, l, e, h.sup fun _ _ => trivial⟩
end
end
end Go.Proofs.YtlnadcihnfppaaaGreatDoor
