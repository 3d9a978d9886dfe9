/-
  Rows of a call's own, of whatever element size: append within the capacity, copy, clear, as equations on the operation's run. No condition beyond sizes.
-/
import Derived.Test.YtdegmpigkgkafaaGreatDoorMem
import Derived.Laws.CopyRow
import Derived.Laws.Tables
import Derived.ArgAppend
namespace Go.Proofs.YtdegmpigkgkafaaGreatDoor
set_option linter.unusedVariables false
set_option linter.unusedSimpArgs false
set_option linter.unusedSectionVars false
open Go.RowKit
/-- a part of a row is overwritten -/
def splice (cs : List Value) (o : Nat) (vs : List Value) : List Value := cs.take o ++ vs ++ cs.drop (o + vs.length)
theorem Blk.setRow_ {w : World} {g : Nat} {t : TypeId} {cs : Array Value} (h : Blk w g t cs) (cs' : Array Value) : Blk (w.setRow g cs') g t cs' := setRow_heap w g cs cs' t (0, 0) h
theorem Only.setRow' {F : Nat → Prop} {a b : World} (h : Only F a b) {g : Nat} (hg : F g ∨ a.heap.size ≤ g) (cs : Array Value) : Only F a (b.setRow g cs) :=
 ⟨h.os, h.tape, h.output, by simpa using h.size, fun i hi hn => by
  have hne : i ≠ g := by
   rintro rfl
   rcases hg with hg | hg
   · exact hn hg
   · omega
  exact (setRow_other b g i cs hne).trans (h.block i hi hn)⟩
section
variable {P : Program} {w : World}
/-- 'copy(d, s)' into a row that is known whole -/
theorem run_copy_blk {dT sT ty e : TypeId} {i : TypeInfo} (ht : P.underlying dT = some (.slice e)) (hi : P.info? e = some i) {size : Nat} (hsize : i.size = size) {g : Nat} {e' : TypeId} {cs : List Value} (hb : Blk w g e' cs.toArray)
 (o dLen dCap : Nat) (A : Option Addr) (sLen sCap m : Nat) (hm : Nat.min sLen dLen = m) (news : List Value) {S : Nat → Prop} (hr : Reads w S size A m news) (h1 : ∀ u ∈ news, u.oneCell' = true) (hlen : o + m * size ≤ cs.length) :
 (Builtin.copy_ #[dT, sT] ty #[.slice (some ⟨g, o, none⟩) dLen dCap, .slice A sLen sCap]).run P w = .ok (goInt m) (w.setRow g (splice cs o news).toArray) := by
 have hnl := hr.1
 have hst := run_storeCells_at P g o e' news 0 cs.toArray w hb (by simp; omega) h1
 simp only [Nat.add_zero, List.toList_toArray] at hst
 rcases Nat.eq_zero_or_pos m with h0 | h0
 · subst h0
   obtain rfl : news = [] := List.eq_nil_of_length_eq_zero (by simpa using hnl)
   have hs : splice cs o [] = cs := by simp [splice]
   rw [hs, setRow_self w g _ e' (0, 0) hb]
   cases A with
   | none => simp [Builtin.copy_, run_underlying ht, Builtin.lenOf, Builtin.firstCells, sizeOf, typeInfo, hi, hm, storeCells]
   | some a =>
    have hfc := run_firstCells_some (P := P) w size 0 a sLen sCap [] (by simp) (by simp)
    simp [Builtin.copy_, run_underlying ht, Builtin.lenOf, sizeOf, typeInfo, hi, hsize, hm, hfc, storeCells]
 · obtain ⟨a, rfl, _, _, hc⟩ := hr.2 h0
   have hfc := run_firstCells_some (P := P) w size m a sLen sCap news hnl hc
   simp [Builtin.copy_, run_underlying ht, Builtin.lenOf, sizeOf, typeInfo, hi, hsize, hm, hfc, hst, splice]
end
/-- a row that is known whole, as one that is owned -/
theorem own_of_blk {w : World} {base g : Nat} {e : TypeId} {size n cap : Nat} {cs : List Value} {xs : List Value} (hb : Blk w g e cs.toArray) (hg : base ≤ g) (hl : xs.length = n * size) (hnc : n ≤ cap) (hcm : cap ≤ maxLen) (hcs : cs.length = cap * size) (ht : cs.take (n * size) = xs) :
 w.ownsRow base e size (.slice (some ⟨g, 0, none⟩) n cap) n xs := by
 refine ⟨hl, .inr ⟨g, cap, cs.toArray, rfl, hg, hb, hnc, hcm, ?_, ?_⟩⟩
 · first | simpa using hcs | (simp; omega)
 · first | simpa using ht | exact ht
end Go.Proofs.YtdegmpigkgkafaaGreatDoor
