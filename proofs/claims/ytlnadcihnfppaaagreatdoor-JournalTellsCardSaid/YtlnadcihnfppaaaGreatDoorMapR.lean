/-
  A map's entries one after the other, in whatever order they come; delete; a map's clone. No condition: laws over whatever program.
-/
import Derived.Maps.RangeRun
import Derived.Test.YtlnadcihnfppaaaGreatDoorDsk2
namespace Go.Proofs.YtlnadcihnfppaaaGreatDoor
set_option linter.unusedVariables false
set_option linter.unusedSimpArgs false
set_option linter.unusedSectionVars false
open Go.RowKit

section
variable {κ β : Type} {ke : κ → Value} {ve : β → Value} {P : Program}

def IterAt (w : World) (it r since : Nat) (seen : Array Nat) (c0 : Nat) : Prop := w.heap[it]? = some (.mapIter (some r) since seen c0)
/-- the entries that have not come yet -/
def leftL (l : List (κ × β × Nat)) (seen : Array Nat) : List (κ × β × Nat) := l.filter fun x => !seen.contains x.2.2

theorem leftOf_map (l : List (κ × β × Nat)) (seen : Array Nat) : (leftOf (l.map (entOf ke ve)).toArray seen).toList = (leftL l seen).map (entOf ke ve) := by
  simp only [leftOf, leftL, List.filter_toArray, List.filter_map]
  rfl

theorem next_assoc {w : World} {it r since c0 clock : Nat} {seen : Array Nat} {l : List (κ × β × Nat)} (ty : TypeId) (hr : IterAt w it r since seen c0) (hb : MapAt ke ve w r l clock) (hold : ∀ y ∈ l, y.2.2 < since) (hsc : since ≤ c0) :
    (leftL l seen = [] ∧ (Instr.next (.pointer (some ⟨it, 0, none⟩)) false ty).run P w = .ok (.tuple #[.bool false]) w) ∨
    ∃ y ∈ leftL l seen, ∃ w1 : World, (w1 = w ∨ w1 = w.drew) ∧ (Instr.next (.pointer (some ⟨it, 0, none⟩)) false ty).run P w = .ok (.tuple #[.bool true, ke y.1, ve y.2.1]) (World.putMap w1 it (.mapIter (some r) since (seen.push y.2.2) clock)) := by
  rcases run_next_at (P := P) w ty it r since c0 seen _ clock hr hb (by
      intro x hx
      obtain ⟨y, hy, rfl⟩ := List.mem_map.1 (show x ∈ l.map (entOf ke ve) from hx)
      exact hold y hy) hsc with ⟨h1, h2⟩ | ⟨e, he, w1, h1, h2⟩
  · refine .inl ⟨?_, h2⟩
    have : ((leftOf (l.map (entOf ke ve)).toArray seen).toList).length = 0 := by simpa using h1
    rw [leftOf_map, List.length_map] at this
    exact List.eq_nil_of_length_eq_zero this
  · rw [leftOf_map] at he
    obtain ⟨y, hy, rfl⟩ := List.mem_map.1 he
    exact .inr ⟨y, hy, w1, h1, h2⟩

theorem entry_assoc {w : World} {it r since c : Nat} {seen : Array Nat} {l : List (κ × β × Nat)} {y : κ × β × Nat} (hr : IterAt w it r since (seen.push y.2.2) c) (hb : MapAt ke ve w r l c) (hy : y ∈ l) (hn : (l.map (·.2.2)).Nodup) :
    (Instr.entry (.pointer (some ⟨it, 0, none⟩))).run P w = .ok (.tuple #[ke y.1, ve y.2.1]) w := by
  refine run_entry_at (P := P) w it r since seen _ c (entOf ke ve y) hr hb ?_ ?_
  · simpa using ⟨y.1, y.2.1, y.2.2, hy, rfl⟩
  · simpa [Function.comp_def, entOf] using hn

theorem leftL_push_lt {l : List (κ × β × Nat)} {seen : Array Nat} {y : κ × β × Nat} (hy : y ∈ leftL l seen) : (leftL l (seen.push y.2.2)).length < (leftL l seen).length := by
  unfold leftL at hy ⊢
  have e : l.filter (fun x => !(seen.push y.2.2).contains x.2.2) = (l.filter fun x => !seen.contains x.2.2).filter fun x => !(x.2.2 == y.2.2) := by
    rw [List.filter_filter]
    congr 1
    funext x
    simp only [Array.contains_push, Bool.not_or]
    rw [Bool.and_comm]
  rw [e]
  generalize l.filter (fun x => !seen.contains x.2.2) = m at hy
  induction m with
  | nil => cases hy
  | cons z m ih =>
    simp only [List.filter_cons, List.length_cons]
    rcases List.mem_cons.1 hy with rfl | hy
    · simp
      have := List.length_filter_le (fun x : κ × β × Nat => !(x.2.2 == y.2.2)) m
      omega
    · have := ih hy
      split
      · simp only [List.length_cons]; omega
      · omega
theorem leftL_filter_le (l : List (κ × β × Nat)) (seen : Array Nat) (p : κ × β × Nat → Bool) : (leftL (l.filter p) seen).length ≤ (leftL l seen).length := by
  unfold leftL
  rw [List.filter_filter]
  have : l.filter (fun a => (!seen.contains a.2.2) && p a) = (l.filter fun a => !seen.contains a.2.2).filter p := by
    rw [List.filter_filter]
    congr 1
    funext x
    exact Bool.and_comm _ _
  rw [this]
  exact List.length_filter_le _ _
theorem leftL_congr {l l' : List (κ × β × Nat)} (seen : Array Nat) (h : l'.map (·.2.2) = l.map (·.2.2)) : (leftL l' seen).length = (leftL l seen).length := by
  have key : ∀ m : List (κ × β × Nat), (leftL m seen).length = ((m.map (·.2.2)).filter fun b => !seen.contains b).length := fun m => by
    rw [List.filter_map, List.length_map]
    rfl
  rw [key, key, h]

variable [DecidableEq κ]
/-- an entry struck -/
def adel (k : κ) : List (κ × β × Nat) → List (κ × β × Nat)
  | [] => []
  | x :: l => if k = x.1 then l else x :: adel k l
theorem adel_filter {k : κ} : ∀ {l : List (κ × β × Nat)}, (l.map (·.1)).Nodup → adel k l = l.filter fun x => !decide (k = x.1)
  | [], _ => rfl
  | x :: l, h => by
    rw [List.map_cons, List.nodup_cons] at h
    simp only [adel, List.filter_cons]
    by_cases hk : k = x.1
    · simp only [hk, if_true, decide_true, Bool.not_true, Bool.false_eq_true, if_false]
      symm
      rw [List.filter_eq_self]
      intro z hz
      have : x.1 ≠ z.1 := fun e => h.1 (by rw [e]; exact List.mem_map.2 ⟨z, hz, rfl⟩)
      simp [this]
    · simp only [hk, if_false, decide_false, Bool.not_false, if_true]
      rw [adel_filter h.2]
theorem adel_none {k : κ} : ∀ {l : List (κ × β × Nat)} {i : Nat}, assocIx k l i = none → adel k l = l
  | [], _, _ => rfl
  | x :: l, i, h => by
    unfold assocIx at h
    by_cases hk : k = x.1
    · rw [if_pos hk] at h; cases h
    · rw [if_neg hk] at h
      simp [adel, hk, adel_none h]
theorem adel_some {k : κ} : ∀ {l : List (κ × β × Nat)} {i j : Nat} {b : β}, assocIx k l i = some (j, b) → ∃ n, j = i + n ∧ n < l.length ∧ (adel k l).map (entOf ke ve) = (l.map (entOf ke ve)).eraseIdx n
  | [], _, _, _, h => by simp [assocIx] at h
  | x :: l, i, j, b, h => by
    unfold assocIx at h
    by_cases hk : k = x.1
    · rw [if_pos hk] at h
      obtain ⟨rfl, rfl⟩ := Prod.mk.inj (Option.some.inj h)
      exact ⟨0, rfl, by simp, by simp [adel, hk]⟩
    · rw [if_neg hk] at h
      obtain ⟨n, rfl, hn, hc⟩ := adel_some h
      exact ⟨n + 1, by omega, by simp; omega, by simp only [adel, hk, if_false, List.map_cons, List.eraseIdx_cons_succ]; rw [hc]⟩

variable {K : TypeId} {w : World} {r clock : Nat} {l : List (κ × β × Nat)} {T E : TypeId}
theorem KeyEq.chk_any (h : KeyEq P K ke) (e : Bool) (k : κ) (w : World) : (Instr.checkKey e 10000 K (ke k)).run P w = .ok () w := h.chk e k w

theorem run_delete_assoc (h : KeyEq P K ke) (hT : P.underlying T = some (.map K E)) (hm : MapAt ke ve w r l clock) (ty : TypeId) (tk : TypeId) (k : κ) :
    (Builtin.delete_ #[T, tk] ty #[.map (some r), ke k]).run P w = .ok (.tuple #[]) (World.putMap w r (.map ((adel k l).map (entOf ke ve)).toArray clock)) := by
  have hg := MapKept.run_getObj_map (P := P) hm
  unfold Builtin.delete_
  simp only [List.getElem?_toArray, List.getElem?_cons_zero, List.getElem?_cons_succ, Sem.run_bind, run_underlying hT, Result.andThen_ok, hg, h.chk, findKey_assoc h k w l]
  cases hi : assocIx k l 0 with
  | none =>
    simp only [Option.map_none, Sem.run_bind, Sem.run_pure]
    rw [MapKept.run_setObj_map _ hm, adel_none hi]
    rfl
  | some p =>
    obtain ⟨j, b⟩ := p
    obtain ⟨n, rfl, hn, hc⟩ := adel_some (ke := ke) (ve := ve) hi
    simp only [Option.map_some, Sem.run_bind, Sem.run_pure]
    rw [MapKept.run_setObj_map _ hm, hc]
    simp [World.putMap, Array.eraseIdxIfInBounds, hn]
end

section
variable {κ β : Type} {ke : κ → Value} {ve : β → Value}
/-- how many entries an iterator has still to give -/
def iterLeft (w : World) (it r : Nat) : Nat := match w.heap[it]?, w.heap[r]? with
  | some (.mapIter _ _ seen _), some (.map es _) => (leftOf es seen).size
  | _, _ => 0
theorem iterLeft_eq {w : World} {it r since c0 clock : Nat} {seen : Array Nat} {l : List (κ × β × Nat)} (hr : IterAt w it r since seen c0) (hb : MapAt ke ve w r l clock) : iterLeft w it r = (leftL l seen).length := by
  have h1 : w.heap[it]? = _ := hr
  have h2 : w.heap[r]? = _ := hb
  unfold iterLeft
  rw [h1, h2]
  show (leftOf (l.map (entOf ke ve)).toArray seen).size = _
  rw [← Array.length_toList, leftOf_map, List.length_map]
theorem IterAt.only {w w' : World} {F : Nat → Prop} {it r since c0 : Nat} {seen : Array Nat} (h : IterAt w it r since seen c0) (ho : Only F w w') (hF : ¬ F it) : IterAt w' it r since seen c0 := (ho.block it (heap_lt h) hF).trans h
theorem IterAt.below {w w' : World} {B it r since c0 : Nat} {seen : Array Nat} (h : IterAt w it r since seen c0) (ho : Below B w w') (hF : it < B) : IterAt w' it r since seen c0 := (ho.block it hF).trans h
theorem MapAt.below {w w' : World} {B r clock : Nat} {l : List (κ × β × Nat)} (h : MapAt ke ve w r l clock) (ho : Below B w w') (hF : r < B) : MapAt ke ve w' r l clock := (ho.block r hF).trans h
theorem IterAt.put {w : World} {it r since c0 : Nat} {seen : Array Nat} (h : it < w.heap.size) : IterAt (World.putMap w it (.mapIter (some r) since seen c0)) it r since seen c0 := by
  simp [IterAt, World.putMap, h]
theorem MapAt.putOther {w : World} {it r clock : Nat} {l : List (κ × β × Nat)} (h : MapAt ke ve w r l clock) (hne : r ≠ it) (o : Obj) : MapAt ke ve (World.putMap w it o) r l clock := by
  unfold MapAt at h ⊢
  simpa [World.putMap, Ne.symm hne] using h
theorem eq_of_nodup_map {α γ : Type} (g : α → γ) : ∀ (l : List α), (l.map g).Nodup → ∀ x ∈ l, ∀ y ∈ l, g x = g y → x = y
  | a :: l, hn, x, hx, y, hy, e => by
    rw [List.map_cons, List.nodup_cons] at hn
    rcases List.mem_cons.1 hx with rfl | hx2 <;> rcases List.mem_cons.1 hy with rfl | hy2
    · rfl
    · exact absurd (by rw [e]; exact List.mem_map.2 ⟨y, hy2, rfl⟩) hn.1
    · exact absurd (by rw [← e]; exact List.mem_map.2 ⟨x, hx2, rfl⟩) hn.1
    · exact eq_of_nodup_map g l hn.2 x hx2 y hy2 e
end
end Go.Proofs.YtlnadcihnfppaaaGreatDoor
