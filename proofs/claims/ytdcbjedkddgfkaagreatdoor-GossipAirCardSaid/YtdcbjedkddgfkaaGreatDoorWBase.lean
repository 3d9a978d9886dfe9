/-
  The wire's seat: what the listed variables hold, the library's contracts, rows of ints and of strings. No condition beyond those that each names.
-/
import Derived.Test.YtdcbjedkddgfkaaGreatDoorWSh
import Derived.Test.YtdcbjedkddgfkaaGreatDoorWir
import Derived.Test.YtdcbjedkddgfkaaGreatDoorSx
import Derived.Lib.AppendIntMem
namespace Go.Proofs.YtdcbjedkddgfkaaGreatDoor
set_option linter.unusedVariables false
set_option linter.unusedSimpArgs false
set_option linter.unusedSectionVars false
open Go.RowKit
/-! ### what the listed variables hold -/
def ErrOk (w : World) (g : Nat) : Prop := ∃ ev, w.cell? ⟨g, 0, none⟩ = some ev ∧ (ev = .nilIface ∨ ∃ te pe, ev = .iface te pe)
def Gr (w : World) : Prop := 6 ≤ w.heap.size ∧ Lib.TabIs Tryz.prog w "internal/strconv.uint64pow10" .u64 Lib.pow10Tab ∧ ErrOk w 2 ∧ ErrOk w 3
theorem ErrOk.only {w w' : World} {F : Nat → Prop} {g : Nat} (h : ErrOk w g) (o : Only F w w') (hg : g < w.heap.size) (hF : ¬ F g) : ErrOk w' g := by
 obtain ⟨ev, h1, h2⟩ := h
 exact ⟨ev, (o.cell (p := ⟨g, 0, none⟩) hg hF).trans h1, h2⟩
theorem tab_only {w w' : World} {F : Nat → Prop} {k : IntKind} {zs : List Int} (h : Lib.TabIs Tryz.prog w "internal/strconv.uint64pow10" k zs) (o : Only F w w') (hw : 6 ≤ w.heap.size) (hF : ∀ k, F k → 6 ≤ k) : Lib.TabIs Tryz.prog w' "internal/strconv.uint64pow10" k zs := by
 unfold Lib.TabIs World.var? at *
 have e : (Tryz.prog).globalNamed "internal/strconv.uint64pow10" = some 0 := by kernel_rfl
 rw [e] at h ⊢
 simp only [Option.bind_some] at h ⊢
 rw [o.block 0 (by omega) (fun hf => by have := hF _ hf; omega)]
 exact h
theorem Gr.only {w w' : World} {F : Nat → Prop} (h : Gr w) (o : Only F w w') (hF : ∀ k, F k → 6 ≤ k) : Gr w' :=
 ⟨Nat.le_trans h.1 o.size, tab_only h.2.1 o h.1 hF, h.2.2.1.only o (by have := h.1; omega) (fun hf => by have := hF _ hf; omega), h.2.2.2.only o (by have := h.1; omega) (fun hf => by have := hF _ hf; omega)⟩
theorem Gr.k {w w' : World} (h : Gr w) (o : Only NoF w w') : Gr w' := h.only o fun _ hf => hf.elim
theorem only_of_below {w w' : World} (h : Below w.heap.size w w') : Only NoF w w' := Only.of_below h (Nat.le_refl _)
/-! ### strings -/
theorem strV_size (s : Str) : (ByteArray.mk s.toArray).size = s.length := rfl
theorem toL (s : Str) : (ByteArray.mk s.toArray).data.toList = s := by simp
/-! ### the library's contracts -/
theorem itoa_v {w : World} (hG : Gr w) (n : Int) (hn : Wr.Ok n) : Calls Tryz.prog 68 #[.int .i64 n] w (Fix (strV (Lib.itoa n)) w) := by
 refine (Tryz.strconv_Itoa n hn.1 hn.2 w hG.2.1).mono ?_
 rintro e w' ⟨rfl, k, os, rfl⟩
 exact ⟨rfl, only_of_below (Lib.below_grow _ w (Nat.le_refl _) k os)⟩
/-- Atoi: the number, where the bytes spell one; else an error that is not nil -/
def AtoiTo (w : World) (s : Str) (e : Ending) (w' : World) : Prop :=
 ((∃ n, Lib.atoiAll s = .ok n ∧ e = .returned (.tuple #[.int .i64 n, .nilIface])) ∨ ((∀ n, Lib.atoiAll s ≠ .ok n) ∧ ∃ n t p, e = .returned (.tuple #[.int .i64 n, .iface t p]) ∧ Wr.Ok n)) ∧ Only NoF w w'
theorem atoi_v {w : World} (hG : Gr w) (s : Str) (hs : s.length ≤ 1000000) : Calls Tryz.prog 129 #[strV s] w (AtoiTo w s) := by
 rcases h : Lib.atoiAll s with n | _ | _
 · refine (Tryz.strconv_Atoi_ok ⟨s.toArray⟩ (by rw [strV_size]; omega) n (by rw [toL]; exact h) w).mono ?_
   rintro e w' ⟨rfl, hw⟩
   refine ⟨.inl ⟨n, h, rfl⟩, ?_⟩
   rcases hw with rfl | ⟨t, rfl⟩
   · exact Only.refl _ _
   · exact only_of_below (Lib.bytesWorld_below _ _ _)
 · obtain ⟨ev, h1, h2⟩ := hG.2.2.1
   refine (Any.strconv_Atoi_syntax Tryz.laysC172 ⟨s.toArray⟩ (by rw [strV_size]; omega) (by rw [toL]; exact h) ev w h1 h2).mono ?_
   rintro e w' ⟨N, rfl, _, _, hb⟩
   exact ⟨.inr ⟨fun n hn => (by rw [hn] at h; cases h), 0, _, _, rfl, by unfold Wr.Ok; omega⟩, only_of_below hb⟩
 · obtain ⟨ev, h1, h2⟩ := hG.2.2.2
   refine (Any.strconv_Atoi_range Tryz.laysC172 ⟨s.toArray⟩ (by rw [strV_size]; omega) (by rw [toL]; exact h) ev w h1 h2).mono ?_
   rintro e w' ⟨N, rfl, _, _, hb⟩
   exact ⟨.inr ⟨fun n hn => (by rw [hn] at h; cases h), _, _, _, rfl, Lib.atoiSat_bounds _⟩, only_of_below hb⟩
theorem index_v (w : World) (s : Str) (c : UInt8) (k : Int) (hk : k = (c.toNat : Int)) : Calls Tryz.prog 128 #[strV s, .int .u8 k] w (Fix (.int .i64 (Lib.indexByte s c)) w) := by
 refine (Tryz.strings_IndexByte ⟨s.toArray⟩ k w).mono ?_
 rintro e w' ⟨rfl, rfl⟩
 subst hk
 refine ⟨?_, Only.refl _ _⟩
 rw [toL]
 simp
theorem cut_v (w : World) (s p : Str) : Calls Tryz.prog 130 #[strV s, strV p] w (Fix (.tuple #[strV (Lib.trimPrefix s p), .bool (Lib.hasPrefix s p)]) w) := by
 refine (Tryz.strings_CutPrefix ⟨s.toArray⟩ ⟨p.toArray⟩ w).mono ?_
 rintro e w' ⟨rfl, rfl⟩
 refine ⟨?_, Only.refl _ _⟩
 rw [toL, toL]
/-! ### rows -/
def KInt : Row Int := ⟨1, fun m => [.int .i64 m], I64, fun _ => rfl, by decide, fun x u hu => by
 simp at hu
 rcases hu with rfl; rfl⟩
abbrev IntsV (w : World) (v : Value) (l : List Int) : Prop := SliceOf AllB 1 KInt.R w v l
theorem wr_ok {n : Int} (h : I64 n) : Wr.Ok n := by unfold I64 at h; exact h
theorem ok_wr {n : Int} (h : Wr.Ok n) : I64 n := by unfold I64; exact h
end Go.Proofs.YtdcbjedkddgfkaaGreatDoor
