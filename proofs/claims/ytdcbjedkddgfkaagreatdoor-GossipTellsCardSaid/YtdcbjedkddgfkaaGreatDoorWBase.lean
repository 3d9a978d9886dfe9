/-
  The wire's seat: what the listed variables hold, the library's contracts, rows of ints and of strings. No condition beyond those that each names.
-/
import Derived.Test.YtdcbjedkddgfkaaGreatDoorWSh
import Derived.Test.YtdcbjedkddgfkaaGreatDoorWir
import Derived.Test.YtdcbjedkddgfkaaGreatDoorSx
import Derived.Lib.AppendIntMem
namespace Go.Proofs.YtdcbjedkddgfkaaGreatDoor
set_option linter.unusedVariables false
set_option linter.unusedSimpArgs false
set_option linter.unusedSectionVars false
open Go.RowKit
/-! ### what the listed variables hold -/
def ErrOk (w : World) (g : Nat) : Prop := ∃ ev, w.cell? ⟨g, 0, none⟩ = some ev ∧ (ev = .nilIface ∨ ∃ te pe, ev = .iface te pe)
def Gr (w : World) : Prop := 6 ≤ w.heap.size ∧ Lib.TabIs Tryz.prog w "internal/strconv.uint64pow10" .u64 Lib.pow10Tab ∧ True
theorem ErrOk.only {w w' : World} {F : Nat → Prop} {g : Nat} (h : ErrOk w g) (o : Only F w w') (hg : g < w.heap.size) (hF : ¬ F g) : ErrOk w' g := by
 obtain ⟨ev, h1, h2⟩ := h
 exact ⟨ev, (o.cell (p := ⟨g, 0, none⟩) hg hF).trans h1, h2⟩
theorem tab_only {w w' : World} {F : Nat → Prop} {k : IntKind} {zs : List Int} (h : Lib.TabIs Tryz.prog w "internal/strconv.uint64pow10" k zs) (o : Only F w w') (hw : 6 ≤ w.heap.size) (hF : ∀ k, F k → 6 ≤ k) : Lib.TabIs Tryz.prog w' "internal/strconv.uint64pow10" k zs := by
 unfold Lib.TabIs World.var? at *
 have e : (Tryz.prog).globalNamed "internal/strconv.uint64pow10" = some 0 := by kernel_rfl
 rw [e] at h ⊢
 simp only [Option.bind_some] at h ⊢
 rw [o.block 0 (by omega) (fun hf => by have := hF _ hf; omega)]
 exact h
theorem Gr.only {w w' : World} {F : Nat → Prop} (h : Gr w) (o : Only F w w') (hF : ∀ k, F k → 6 ≤ k) : Gr w' :=
 ⟨Nat.le_trans h.1 o.size, tab_only h.2.1 o h.1 hF, trivial⟩
theorem Gr.k {w w' : World} (h : Gr w) (o : Only NoF w w') : Gr w' := h.only o fun _ hf => hf.elim
theorem only_of_below {w w' : World} (h : Below w.heap.size w w') : Only NoF w w' := Only.of_below h (Nat.le_refl _)
/-! ### strings -/
theorem strV_size (s : Str) : (ByteArray.mk s.toArray).size = s.length := rfl
/-! ### the library's contracts -/
theorem itoa_v {w : World} (hG : Gr w) (n : Int) (hn : Wr.Ok n) : Calls Tryz.prog 68 #[.int .i64 n] w (Fix (strV (Lib.itoa n)) w) := by
 refine (Tryz.strconv_Itoa n hn.1 hn.2 w hG.2.1).mono ?_
 rintro e w' ⟨rfl, k, os, rfl⟩
 exact ⟨rfl, only_of_below (Lib.below_grow _ w (Nat.le_refl _) k os)⟩
/-! ### rows -/
def KInt : Row Int := ⟨1, fun m => [.int .i64 m], I64, fun _ => rfl, by decide, fun x u hu => by
 simp at hu
 rcases hu with rfl; rfl⟩
abbrev IntsV (w : World) (v : Value) (l : List Int) : Prop := SliceOf AllB 1 KInt.R w v l
theorem wr_ok {n : Int} (h : I64 n) : Wr.Ok n := by unfold I64 at h; exact h
end Go.Proofs.YtdcbjedkddgfkaaGreatDoor
