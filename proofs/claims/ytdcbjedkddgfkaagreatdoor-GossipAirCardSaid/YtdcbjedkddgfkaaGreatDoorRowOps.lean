/-
  Rows of a call's own, of whatever element size: append within the capacity, copy, clear, as equations on the operation's run. No condition beyond sizes.
-/
import Derived.Test.YtdcbjedkddgfkaaGreatDoorMem
import Derived.Laws.CopyRow
import Derived.Laws.Tables
import Derived.ArgAppend
namespace Go.Proofs.YtdcbjedkddgfkaaGreatDoor
set_option linter.unusedVariables false
set_option linter.unusedSimpArgs false
set_option linter.unusedSectionVars false
open Go.RowKit
/-- a part of a row is overwritten -/
def splice (cs : List Value) (o : Nat) (vs : List Value) : List Value := cs.take o ++ vs ++ cs.drop (o + vs.length)
theorem length_splice {cs vs : List Value} {o : Nat} (h : o + vs.length ≤ cs.length) : (splice cs o vs).length = cs.length := by
 simp only [splice, List.length_append, List.length_take, List.length_drop]
 omega
theorem splice_get {cs vs : List Value} {o : Nat} (h : o + vs.length ≤ cs.length) (j : Nat) : (splice cs o vs)[j]? = if j < o then cs[j]? else if j < o + vs.length then vs[j - o]? else cs[j]? := by
 have h1 : (cs.take o).length = o := by simp; omega
 unfold splice
 by_cases a : j < o
 · rw [if_pos a, List.append_assoc, List.getElem?_append_left (by omega), List.getElem?_take, if_pos a]
 · rw [if_neg a]
   by_cases b : j < o + vs.length
   · rw [if_pos b, List.getElem?_append_left (by simp; omega), List.getElem?_append_right (by omega), h1]
   · rw [if_neg b, List.getElem?_append_right (by simp; omega), List.getElem?_drop]
     congr 1
     simp
     omega
theorem Blk.setRow_ {w : World} {g : Nat} {t : TypeId} {cs : Array Value} (h : Blk w g t cs) (cs' : Array Value) : Blk (w.setRow g cs') g t cs' := setRow_heap w g cs cs' t (0, 0) h
theorem Blk.setRow_far {w : World} {g k : Nat} {t : TypeId} {cs : Array Value} (h : Blk w g t cs) (hk : g ≠ k) (cs' : Array Value) : Blk (w.setRow k cs') g t cs := (setRow_other w k g cs' hk).trans h
theorem Only.setRow' {F : Nat → Prop} {a b : World} (h : Only F a b) {g : Nat} (hg : F g ∨ a.heap.size ≤ g) (cs : Array Value) : Only F a (b.setRow g cs) :=
 ⟨h.os, h.tape, h.output, by simpa using h.size, fun i hi hn => by
  have hne : i ≠ g := by
   rintro rfl
   rcases hg with hg | hg
   · exact hn hg
   · omega
  exact (setRow_other b g i cs hne).trans (h.block i hi hn)⟩
section
variable {P : Program} {w : World}
/-- 'append(s[:n], x..)' where there is room -/
theorem run_append_blk {t ty e : TypeId} {i : TypeInfo} (ht : P.underlying t = some (.slice e)) (hi : P.info? e = some i) {size : Nat} (hsize : i.size = size) {g : Nat} {e' : TypeId} {cs : List Value} (hb : Blk w g e' cs.toArray)
 (n m cap : Nat) (A : Option Addr) (c : Nat) (news : List Value) {S : Nat → Prop} (hr : Reads w S size A m news) (h1 : ∀ u ∈ news, u.oneCell' = true) (hroom : n + m ≤ cap) (hlen : (n + m) * size ≤ cs.length) :
 (Builtin.append_ #[t, t] ty #[.slice (some ⟨g, 0, none⟩) n cap, .slice A m c]).run P w = .ok (.slice (some ⟨g, 0, none⟩) (n + m) cap) (w.setRow g (splice cs (n * size) news).toArray) := by
 have hnl := hr.1
 have hml : (n + m) * size = n * size + m * size := Nat.add_mul n m size
 have hst := run_storeCells_at P g (n * size) e' news 0 cs.toArray w hb (by simp; omega) h1
 simp only [Nat.add_zero, List.toList_toArray] at hst
 have hadd : (⟨g, 0, none⟩ : Addr).add (n * size) = ⟨g, n * size, none⟩ := by rw [Addr.add_lit]; simp
 cases A with
 | none =>
  have hm : m = 0 := by
   rcases Nat.eq_zero_or_pos m with h0 | h0
   · exact h0
   · obtain ⟨ad, h, _⟩ := hr.2 h0
     cases h
  subst hm
  obtain rfl : news = [] := List.eq_nil_of_length_eq_zero (by simpa using hnl)
  have hs : splice cs (n * size) [] = cs := by simp [splice]
  rw [hs, setRow_self w g _ e' (0, 0) hb]
  have hcap : n ≤ cap := by omega
  simp [Builtin.append_, run_underlying ht, sizeOf, typeInfo, hi, Builtin.lenOf, Builtin.firstCells, hcap, storeCells]
 | some a =>
  have hcells : ∀ j u, news[j]? = some u → w.cell? (a.add j) = some u := by
   intro j u hu
   rcases Nat.eq_zero_or_pos m with h0 | h0
   · subst h0
     obtain rfl : news = [] := List.eq_nil_of_length_eq_zero (by simpa using hnl)
     simp at hu
   · obtain ⟨ad, h, _, _, hc⟩ := hr.2 h0
     injection h with h
     subst h
     exact hc j u hu
  have hfc := run_firstCells_some (P := P) w size m a m c news hnl hcells
  simp [Builtin.append_, run_underlying ht, sizeOf, typeInfo, hi, hsize, Builtin.lenOf, hfc, hroom, hadd, hst, splice]
/-- 'copy(d, s)' into a row that is known whole -/
theorem run_copy_blk {dT sT ty e : TypeId} {i : TypeInfo} (ht : P.underlying dT = some (.slice e)) (hi : P.info? e = some i) {size : Nat} (hsize : i.size = size) {g : Nat} {e' : TypeId} {cs : List Value} (hb : Blk w g e' cs.toArray)
 (o dLen dCap : Nat) (A : Option Addr) (sLen sCap m : Nat) (hm : Nat.min sLen dLen = m) (news : List Value) {S : Nat → Prop} (hr : Reads w S size A m news) (h1 : ∀ u ∈ news, u.oneCell' = true) (hlen : o + m * size ≤ cs.length) :
 (Builtin.copy_ #[dT, sT] ty #[.slice (some ⟨g, o, none⟩) dLen dCap, .slice A sLen sCap]).run P w = .ok (goInt m) (w.setRow g (splice cs o news).toArray) := by
 have hnl := hr.1
 have hst := run_storeCells_at P g o e' news 0 cs.toArray w hb (by simp; omega) h1
 simp only [Nat.add_zero, List.toList_toArray] at hst
 rcases Nat.eq_zero_or_pos m with h0 | h0
 · subst h0
   obtain rfl : news = [] := List.eq_nil_of_length_eq_zero (by simpa using hnl)
   have hs : splice cs o [] = cs := by simp [splice]
   rw [hs, setRow_self w g _ e' (0, 0) hb]
   cases A with
   | none => simp [Builtin.copy_, run_underlying ht, Builtin.lenOf, Builtin.firstCells, sizeOf, typeInfo, hi, hm, storeCells]
   | some a =>
    have hfc := run_firstCells_some (P := P) w size 0 a sLen sCap [] (by simp) (by simp)
    simp [Builtin.copy_, run_underlying ht, Builtin.lenOf, sizeOf, typeInfo, hi, hsize, hm, hfc, storeCells]
 · obtain ⟨a, rfl, _, _, hc⟩ := hr.2 h0
   have hfc := run_firstCells_some (P := P) w size m a sLen sCap news hnl hc
   simp [Builtin.copy_, run_underlying ht, Builtin.lenOf, sizeOf, typeInfo, hi, hsize, hm, hfc, hst, splice]
/-- 'clear' of a part of a row -/
theorem run_clear_row {t e : TypeId} {z : Value} (ht : P.underlying t = some (.slice e)) (hv : ∀ w, (zeroValue e).run P w = .ok z w) (h1 : ∀ u ∈ z.cells, u.oneCell' = true) {g : Nat} {e' : TypeId} {cs : List Value} (hb : Blk w g e' cs.toArray) (o n c : Nat) (hl : o + n * z.cells.size ≤ cs.length) (hn : 0 < n) :
 ∃ cs' : List Value, (∀ ty, (Builtin.clear_ #[t] ty #[.slice (some ⟨g, o, none⟩) n c]).run P w = .ok (.tuple #[]) (w.setRow g cs'.toArray)) ∧ cs'.length = cs.length ∧ cs'.take o = cs.take o := by
 have hz : (Builtin.zeroCells z.cells n).toList.length = n * z.cells.size := by simp [Builtin.zeroCells]
 have h := run_storeCells_at (P := P) g o e' (Builtin.zeroCells z.cells n).toList 0 cs.toArray w hb (by rw [hz]; simpa using hl) (fun u hu => by
  simp only [Builtin.zeroCells, Array.toList_map, List.mem_map] at hu
  obtain ⟨i, hi, rfl⟩ := hu
  rcases Nat.eq_zero_or_pos z.cells.size with h0 | h0
  · simp [h0] at hi
  · have hlt : i % z.cells.size < z.cells.size := Nat.mod_lt _ h0
    rw [getElem!_pos z.cells _ hlt]
    exact h1 _ (Array.getElem_mem hlt))
 refine ⟨List.take (o + 0) cs ++ (Builtin.zeroCells z.cells n).toList ++ List.drop (o + 0 + (Builtin.zeroCells z.cells n).toList.length) cs, ?_, ?_, ?_⟩
 · intro ty
   obtain ⟨m, rfl⟩ : ∃ m, n = m + 1 := ⟨n - 1, by omega⟩
   unfold Builtin.clear_
   simp only [List.getElem?_toArray, List.getElem?_cons_zero, Sem.run_bind, run_underlying ht, Result.andThen_ok, hv, h, Sem.run_pure]
 · simp only [List.length_append, List.length_take, List.length_drop, hz]
   omega
 · rw [Nat.add_zero, List.append_assoc, List.take_append_of_le_length (by simp; omega), List.take_take, Nat.min_self]
end
/-- a row that is known whole, as one that is owned -/
theorem own_of_blk {w : World} {base g : Nat} {e : TypeId} {size n cap : Nat} {cs : List Value} {xs : List Value} (hb : Blk w g e cs.toArray) (hg : base ≤ g) (hl : xs.length = n * size) (hnc : n ≤ cap) (hcm : cap ≤ maxLen) (hcs : cs.length = cap * size) (ht : cs.take (n * size) = xs) :
 w.ownsRow base e size (.slice (some ⟨g, 0, none⟩) n cap) n xs := by
 refine ⟨hl, .inr ⟨g, cap, cs.toArray, rfl, hg, hb, hnc, hcm, ?_, ?_⟩⟩
 · first | simpa using hcs | (simp; omega)
 · first | simpa using ht | exact ht
end Go.Proofs.YtdcbjedkddgfkaaGreatDoor
