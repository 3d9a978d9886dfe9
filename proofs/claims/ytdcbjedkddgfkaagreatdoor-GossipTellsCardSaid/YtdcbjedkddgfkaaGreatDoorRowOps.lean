/-
  Rows of a call's own, of whatever element size: append within the capacity, copy, clear, as equations on the operation's run. No condition beyond sizes.
-/
import Derived.Test.YtdcbjedkddgfkaaGreatDoorMem
import Derived.Laws.CopyRow
import Derived.Laws.Tables
import Derived.ArgAppend
namespace Go.Proofs.YtdcbjedkddgfkaaGreatDoor
set_option linter.unusedVariables false
set_option linter.unusedSimpArgs false
set_option linter.unusedSectionVars false
open Go.RowKit
/-- a part of a row is overwritten -/
def splice (cs : List Value) (o : Nat) (vs : List Value) : List Value := cs.take o ++ vs ++ cs.drop (o + vs.length)
theorem length_splice {cs vs : List Value} {o : Nat} (h : o + vs.length ≤ cs.length) : (splice cs o vs).length = cs.length := by
 simp only [splice, List.length_append, List.length_take, List.length_drop]
 omega
theorem Blk.setRow_ {w : World} {g : Nat} {t : TypeId} {cs : Array Value} (h : Blk w g t cs) (cs' : Array Value) : Blk (w.setRow g cs') g t cs' := setRow_heap w g cs cs' t (0, 0) h
theorem Only.setRow' {F : Nat → Prop} {a b : World} (h : Only F a b) {g : Nat} (hg : F g ∨ a.heap.size ≤ g) (cs : Array Value) : Only F a (b.setRow g cs) :=
 ⟨h.os, h.tape, h.output, by simpa using h.size, fun i hi hn => by
  have hne : i ≠ g := by
   rintro rfl
   rcases hg with hg | hg
   · exact hn hg
   · omega
  exact (setRow_other b g i cs hne).trans (h.block i hi hn)⟩
section
variable {P : Program} {w : World}
/-- 'clear' of a part of a row -/
theorem run_clear_row {t e : TypeId} {z : Value} (ht : P.underlying t = some (.slice e)) (hv : ∀ w, (zeroValue e).run P w = .ok z w) (h1 : ∀ u ∈ z.cells, u.oneCell' = true) {g : Nat} {e' : TypeId} {cs : List Value} (hb : Blk w g e' cs.toArray) (o n c : Nat) (hl : o + n * z.cells.size ≤ cs.length) (hn : 0 < n) :
 ∃ cs' : List Value, (∀ ty, (Builtin.clear_ #[t] ty #[.slice (some ⟨g, o, none⟩) n c]).run P w = .ok (.tuple #[]) (w.setRow g cs'.toArray)) ∧ cs'.length = cs.length ∧ cs'.take o = cs.take o := by
 have hz : (Builtin.zeroCells z.cells n).toList.length = n * z.cells.size := by simp [Builtin.zeroCells]
 have h := run_storeCells_at (P := P) g o e' (Builtin.zeroCells z.cells n).toList 0 cs.toArray w hb (by rw [hz]; simpa using hl) (fun u hu => by
  simp only [Builtin.zeroCells, Array.toList_map, List.mem_map] at hu
  obtain ⟨i, hi, rfl⟩ := hu
  rcases Nat.eq_zero_or_pos z.cells.size with h0 | h0
  · simp [h0] at hi
  · have hlt : i % z.cells.size < z.cells.size := Nat.mod_lt _ h0
    rw [getElem!_pos z.cells _ hlt]
    exact h1 _ (Array.getElem_mem hlt))
 refine ⟨List.take (o + 0) cs ++ (Builtin.zeroCells z.cells n).toList ++ List.drop (o + 0 + (Builtin.zeroCells z.cells n).toList.length) cs, ?_, ?_, ?_⟩
 · intro ty
   obtain ⟨m, rfl⟩ : ∃ m, n = m + 1 := ⟨n - 1, by omega⟩
   unfold Builtin.clear_
   simp only [List.getElem?_toArray, List.getElem?_cons_zero, Sem.run_bind, run_underlying ht, Result.andThen_ok, hv, h, Sem.run_pure]
 · simp only [List.length_append, List.length_take, List.length_drop, hz]
   omega
 · rw [Nat.add_zero, List.append_assoc, List.take_append_of_le_length (by simp; omega), List.take_take, Nat.min_self]
end
/-- a row that is known whole, as one that is owned -/
theorem own_of_blk {w : World} {base g : Nat} {e : TypeId} {size n cap : Nat} {cs : List Value} {xs : List Value} (hb : Blk w g e cs.toArray) (hg : base ≤ g) (hl : xs.length = n * size) (hnc : n ≤ cap) (hcm : cap ≤ maxLen) (hcs : cs.length = cap * size) (ht : cs.take (n * size) = xs) :
 w.ownsRow base e size (.slice (some ⟨g, 0, none⟩) n cap) n xs := by
 refine ⟨hl, .inr ⟨g, cap, cs.toArray, rfl, hg, hb, hnc, hcm, ?_, ?_⟩⟩
 · first | simpa using hcs | (simp; omega)
 · first | simpa using ht | exact ht
end Go.Proofs.YtdcbjedkddgfkaaGreatDoor
