/-
  What a list of bytes that a row's argument holds reads as. No condition.
-/
import Derived.Test.YtdcbjedkddgfkaaDoorWU
import Derived.Test.YtdcbjedkddgfkaaDoorWOpen
import Derived.Test.YtdcbjedkddgfkaaDoorGo15
namespace Go.Proofs.YtdcbjedkddgfkaaDoor
set_option linter.unusedVariables false
set_option linter.unusedSimpArgs false
set_option linter.unusedSectionVars false
open Go.ChangeShapes Go.WideShapes Go.ChangeAt Go.RowKit Go.Deep Go.Joins
section
variable {H : Type} {enc : TypeId × Value → H} {w : World} {base : Nat} {spare : Nat → Bool} {held : Bool}
theorem wf_U8 {n : Int} (h : (Lit.int .u8 n).wf = true) : 0 ≤ n ∧ n < 256 := by
 have : 0 ≤ n ∧ n ≤ 255 := by simpa [Lit.wf, IntKind.min, IntKind.max, IntKind.signed, IntKind.bits] using h
 omega
theorem cells_u8 : Tryd.prog.cellsOf 5 = 1 := by kernel_rfl
theorem open_U8s {fuel : Nat} {cs : List Value} {x : DataW H × List MemPlace} (h : DataW.trod enc Tryd.prog w base spare held fuel 23 cs = some x) : ∃ v l, cs = [v] ∧ SliceOf AllB 1 KU8.R w v l := by
 obtain ⟨v, l, e, h⟩ := open_sliceOf Tryd.underlying23 cells_u8 (by decide) KU8.R (fun n cs y hl hy => by
  obtain ⟨n, h1, _, h3⟩ := DataW.trod_int Tryd.underlying5 hy
  have h4 := wf_U8 h3
  refine ⟨UInt8.ofNat n.toNat, ?_, trivial⟩
  have e : ((UInt8.ofNat n.toNat).toNat : Int) = n := by
   have : (UInt8.ofNat n.toNat).toNat = n.toNat % 256 := UInt8.toNat_ofNat'
   rw [this]; omega
  show cs = [.int .u8 (((UInt8.ofNat n.toNat).toNat : Nat) : Int)]
  rw [e]; exact h1) h
 exact ⟨v, l, e, h.sup fun _ _ => trivial⟩
end
end Go.Proofs.YtdcbjedkddgfkaaDoor
