/-
  The acts of the disk's laws as plain data, and the plain laws of DiskReads and DiskSynced. No condition: definitions and plain lemmas.
  The plain laws of DiskSurvives: what is pending tells where a file and its durable part differ. No condition: definitions and plain lemmas.
  JournalStays, as plain data: a journal on a disk that is up and where no crash is scheduled. No condition beyond those that each names.
-/
import Derived.Test.YtlnadcihnfppaaaDoorDsk2
import Derived.Test.YtlnadcihnfppaaaDoorJA
namespace Go.Proofs.YtlnadcihnfppaaaDoor
set_option linter.unusedVariables false
set_option linter.unusedSimpArgs false
set_option linter.unusedSectionVars false
section
structure DAct where
  d : Int
  f : Int
  n : Int
  s : Str
  keep : List Int

def DAct.small (a : DAct) : Prop := a.s.length ≤ 300 ∧ a.keep.length ≤ 60 ∧ (a.n ≤ 3000 ∨ 16776916 ≤ a.n)
instance (a : DAct) : Decidable a.small := inferInstanceAs (Decidable (_ ∧ _ ∧ _))
def smallB (l : List DAct) : Bool := decide (∀ a ∈ l, a.small)
def fewB (l : List DAct) : Bool := smallB l && decide (l.length ≤ 40)
theorem fewB_mem {l : List DAct} (h : fewB l = true) : (∀ a ∈ l, a.small) ∧ l.length ≤ 40 := by
  simp [fewB, smallB] at h
  exact h

namespace Dsk
def step (D : Dsk) (a : DAct) : Dsk × Int :=
  if a.d % 8 = 2 then D.sync a.f
  else if a.d % 8 = 3 then D.truncate a.f a.n
  else if a.d % 8 = 4 then (D.lose (a.n % 4), 0)
  else if a.d % 8 = 5 then (D.arm a.n a.keep, 0)
  else if a.d % 8 = 6 then (D.crash a.keep, 0)
  else if a.d % 8 = 7 then (D.start, 0)
  else D.write a.f a.n a.s
def steps (D : Dsk) (l : List DAct) : Dsk := l.foldl (fun D a => (D.step a).1) D
theorem steps_snoc (D : Dsk) (l : List DAct) (a : DAct) : D.steps (l ++ [a]) = ((D.steps l).step a).1 := by simp [steps]

theorem Ok.truncate {D : Dsk} (h : D.Ok) (f n : Int) : (D.truncate f n).1.Ok := h.tock.truncate0 f n
theorem Ok.sync {D : Dsk} (h : D.Ok) (f : Int) : (D.sync f).1.Ok := h.tock.sync0 f
theorem Ok.step {D : Dsk} (h : D.Ok) (a : DAct) (hn : I64 a.n) (hk : a.keep.length ≤ 60) : (D.step a).1.Ok := by
  unfold Dsk.step
  split
  · exact h.sync _
  split
  · exact h.truncate _ _
  split
  · exact h.lose _ (by unfold I64; omega)
  split
  · exact h.arm _ hn _ (by omega)
  split
  · exact h.crash _
  split
  · exact h.start
  · exact h.write _ _ _
theorem Ok.steps {l : List DAct} : ∀ {D : Dsk}, D.Ok → (∀ a ∈ l, I64 a.n ∧ a.keep.length ≤ 60) → (D.steps l).Ok := by
  induction l with
  | nil => intro D h _; exact h
  | cons a l ih => intro D h hl; exact ih (h.step a (hl a (by simp)).1 (hl a (by simp)).2) fun b hb => hl b (by simp [hb])

theorem ends_zero {D : Dsk} (h : D.armed = 0) : D.ends = false := by simp [ends, h]
theorem tick_zero {D : Dsk} (h : D.armed = 0) : D.tick = D := by simp [tick, h]
theorem tock_zero {D : Dsk} (h : D.armed = 0) : D.tock = D := by simp [tock, ends_zero h, tick_zero h]
theorem may_up {D : Dsk} {f : Int} (hd : D.down = false) (h0 : 0 ≤ f) (h1 : f < 16) : D.may f = 0 := by
  unfold may
  rw [hd, if_neg (by simp), if_neg (by omega)]
theorem write0_up {D : Dsk} {f at_ : Int} {s : Str} (hd : D.down = false) (h0 : 0 ≤ f) (h1 : f < 16) (hat : 0 ≤ at_) (h2 : at_ + s.length ≤ 16777216) : D.write0 f at_ s = (D.add f at_.toNat s, 0) := by
  unfold write0
  rw [may_up hd h0 h1, if_neg (by simp), if_neg (by omega), if_neg (by simp [fits]; omega)]
theorem write_up {D : Dsk} {f at_ : Int} {s : Str} (hd : D.down = false) (ha : D.armed = 0) (h0 : 0 ≤ f) (h1 : f < 16) (hat : 0 ≤ at_) (h2 : at_ + s.length ≤ 16777216) : D.write f at_ s = (D.add f at_.toNat s, 0) := by
  unfold write
  rw [ends_zero ha, if_neg (by simp), tick_zero ha, write0_up hd h0 h1 hat h2]
theorem write_no {D : Dsk} {f at_ : Int} {s : Str} (ha : D.armed = 0) (h : D.down = true ∨ f < 0 ∨ 16 ≤ f) : (D.write f at_ s).2 ≠ 0 := by
  unfold write
  rw [ends_zero ha, if_neg (by simp), tick_zero ha]
  have hm : D.may f ≠ 0 := by
    unfold may
    split
    · omega
    · split
      · omega
      · rename_i h1 h2
        simp at h1
        rw [h1] at h
        simp at h
        omega
  unfold write0
  rw [if_pos hm]
  exact hm
theorem read_up {D : Dsk} {f a n : Int} (hd : D.down = false) (h0 : 0 ≤ f) (h1 : f < 16) (ha : 0 ≤ a) (hn : 0 ≤ n) : D.read f a n = (readS (D.file f).1 a.toNat n.toNat, 0) := by
  unfold read
  rw [may_up hd h0 h1, if_neg (by simp), if_neg (by omega)]
theorem readS_whole (s : Str) (n : Nat) (h : s.length ≤ n) : readS s 0 n = s := by
  simp [readS, List.take_of_length_le h]
theorem read_all {D : Dsk} {f : Int} (hd : D.down = false) (h0 : 0 ≤ f) (h1 : f < 16) (hok : D.Ok) : D.read f 0 16777216 = ((D.file f).1, 0) := by
  rw [read_up hd h0 h1 (by omega) (by omega)]
  rw [show (0 : Int).toNat = 0 from rfl, show (16777216 : Int).toNat = 16777216 from rfl, readS_whole _ _ (hok.lens f).1]
theorem read_no {D : Dsk} {f a n : Int} (h : D.may f ≠ 0) : D.read f a n = ([], D.may f) := by
  unfold read
  rw [if_pos h]

theorem add_file (D : Dsk) (f : Int) (a : Nat) (s : Str) : (D.add f a s).file f = (put (D.file f).1 a s, (D.file f).2) := by
  by_cases hs : s = []
  · simp [add, hs, put]
  · simp [add, hs, setFile]
theorem add_same (D : Dsk) (f : Int) (a : Nat) (s : Str) : (D.add f a s).down = D.down ∧ (D.add f a s).armed = D.armed ∧ (D.add f a s).lost = D.lost ∧ (D.add f a s).keep = D.keep := by
  by_cases hs : s = []
  · simp [add, hs]
  · simp [add, hs]
theorem readS_put (s : Str) (a : Nat) (t : Str) : readS (put s a t) a t.length = t := by
  by_cases ht : t = []
  · simp [readS, ht]
  · have h1 : (s.take a ++ List.replicate (a - s.length) 0).length = a := by simp; omega
    unfold readS put
    rw [if_neg ht, List.append_assoc, List.append_assoc, ← List.append_assoc (s.take a), List.drop_append_of_le_length (by omega)]
    rw [List.drop_of_length_le (by omega), List.nil_append, List.take_left']
    rfl
theorem readS_cut (s : Str) (a n : Nat) : readS s a n = (s.drop (min a s.length)).take (min n (s.length - min a s.length)) := by
  unfold readS
  by_cases h : a ≤ s.length
  · rw [Nat.min_eq_left h]
    by_cases h2 : n ≤ s.length - a
    · rw [Nat.min_eq_left h2]
    · rw [Nat.min_eq_right (by omega), List.take_of_length_le (by simp; omega), List.take_of_length_le (by simp)]
  · rw [show min a s.length = s.length by omega, List.drop_of_length_le (show s.length ≤ a by omega), List.drop_of_length_le (Nat.le_refl _)]
    simp
theorem truncate_up {D : Dsk} {f n : Int} (hd : D.down = false) (ha : D.armed = 0) (h0 : 0 ≤ f) (h1 : f < 16) (hn : 0 ≤ n) (h2 : n ≤ (D.file f).1.length) : D.truncate f n = (D.settle f ((D.file f).1.take n.toNat), 0) := by
  unfold truncate
  rw [tock_zero ha]
  unfold truncate0
  rw [may_up hd h0 h1, if_neg (by simp), if_neg (by omega)]
theorem survives_nil (i : Nat) : survives [] i = false := by simp [survives]
theorem crashF_nil : ∀ (q : List (Int × Int)) (i : Nat) (g : Int → Str × Str), crashF [] i q g = g
  | [], _, _ => rfl
  | p :: q, i, g => by
    unfold crashF
    rw [survives_nil]
    simp [crashF_nil q]
theorem crash_up {D : Dsk} (keep : List Int) (hd : D.down = false) (f : Int) : ((D.crash keep).file f).1 = (crashF keep 0 D.queue D.file f).2 ∧ ((D.crash keep).file f).2 = (crashF keep 0 D.queue D.file f).2 := by
  unfold crash
  rw [hd]
  simp

/-! ### DiskSynced -/

/-- file f is x, durably, and nothing of it is pending -/
def Still (D : Dsk) (f : Int) (x : Str) : Prop := D.file f = (x, x) ∧ ∀ p ∈ D.queue, p.1 ≠ f

theorem crashF_other (keep : List Int) (f : Int) : ∀ (q : List (Int × Int)) (i : Nat) (g : Int → Str × Str), (∀ p ∈ q, p.1 ≠ f) → crashF keep i q g f = g f
  | [], _, _, _ => rfl
  | p :: q, i, g, h => by
    have hp := h p (by simp)
    have hq : ∀ r ∈ q, r.1 ≠ f := fun r hr => h r (by simp [hr])
    unfold crashF
    split
    · rw [crashF_other keep f q (i + 1) _ hq]
      unfold survive
      split
      · simp [setFile, Ne.symm hp]
      · rfl
    · exact crashF_other keep f q (i + 1) _ hq
theorem Still.crash {D : Dsk} {f : Int} {x : Str} (h : Still D f x) (keep : List Int) : Still (D.crash keep) f x := by
  unfold Dsk.crash
  split
  · exact h
  · refine ⟨?_, by simp⟩
    simp only
    rw [crashF_other keep f _ _ _ h.2, h.1]
theorem Still.tick {D : Dsk} {f : Int} {x : Str} (h : Still D f x) : Still D.tick f x := by
  unfold Dsk.tick
  split
  · exact h
  · exact h
theorem Still.tock {D : Dsk} {f : Int} {x : Str} (h : Still D f x) : Still D.tock f x := by
  unfold Dsk.tock
  split
  · exact h.tick.crash _
  · exact h.tick
theorem Still.lose {D : Dsk} {f : Int} {x : Str} (h : Still D f x) (n : Int) : Still (D.lose n) f x := h
theorem Still.settle {D : Dsk} {f g : Int} {x s : Str} (h : Still D f x) (hg : g ≠ f) : Still (D.settle g s) f x := by
  refine ⟨?_, fun p hp => h.2 p (List.mem_filter.1 hp).1⟩
  simp [Dsk.settle, setFile, Ne.symm hg, h.1]
theorem mem_push {q : List (Int × Int)} {p r : Int × Int} : r ∈ push q p ↔ r ∈ q ∨ r = p := by
  unfold push
  split
  · rename_i h
    constructor
    · exact .inl
    · rintro (h1 | rfl)
      · exact h1
      · exact h
  · simp
theorem mem_pushAll {f : Int} {r : Int × Int} : ∀ {ns : List Int} {q : List (Int × Int)}, r ∈ pushAll q f ns ↔ r ∈ q ∨ (r.1 = f ∧ r.2 ∈ ns)
  | [], q => by simp [pushAll]
  | n :: ns, q => by
    have : pushAll q f (n :: ns) = pushAll (push q (f, n)) f ns := rfl
    rw [this, mem_pushAll, mem_push]
    obtain ⟨a, b⟩ := r
    simp only [Prod.mk.injEq, List.mem_cons]
    constructor
    · rintro ((h | h) | h)
      · exact .inl h
      · exact .inr ⟨h.1, .inl h.2⟩
      · exact .inr ⟨h.1, .inr h.2⟩
    · rintro (h | ⟨h1, h2 | h2⟩)
      · exact .inl (.inl h)
      · exact .inl (.inr ⟨h1, h2⟩)
      · exact .inr ⟨h1, h2⟩
theorem Still.add {D : Dsk} {f g : Int} {x s : Str} {a : Nat} (h : Still D f x) (hg : g ≠ f) : Still (D.add g a s) f x := by
  unfold Dsk.add
  split
  · exact h
  · refine ⟨?_, fun p hp => ?_⟩
    · simp [setFile, Ne.symm hg, h.1]
    · rcases mem_pushAll.1 hp with h1 | h1
      · exact h.2 p h1
      · rw [h1.1]; exact hg
theorem Still.write0 {D : Dsk} {f g : Int} {x s : Str} {a : Int} (h : Still D f x) (hg : g ≠ f) : Still (D.write0 g a s).1 f x := by
  unfold Dsk.write0
  split
  · exact h
  split
  · exact h
  split
  · exact h
  · exact h.add hg
theorem Still.write {D : Dsk} {f g : Int} {x s : Str} {a : Int} (h : Still D f x) (hg : g ≠ f) : Still (D.write g a s).1 f x := by
  unfold Dsk.write
  split
  · exact (h.tick.write0 hg).crash _
  · exact h.tick.write0 hg
theorem Still.sync {D : Dsk} {f g : Int} {x : Str} (h : Still D f x) (hg : g ≠ f) : Still (D.sync g).1 f x := by
  unfold Dsk.sync Dsk.sync0
  split
  · exact h.tock
  split
  · exact h.tock
  · exact h.tock.settle hg
theorem Still.truncate {D : Dsk} {f g n : Int} {x : Str} (h : Still D f x) (hg : g ≠ f) : Still (D.truncate g n).1 f x := by
  unfold Dsk.truncate Dsk.truncate0
  split
  · exact h.tock
  split
  · exact h.tock
  · exact h.tock.settle hg
theorem Still.step {D : Dsk} {f : Int} {x : Str} (h : Still D f x) (a : DAct) (ha : (a.d % 8 < 4 ∧ a.f ≠ f) ∨ a.d % 8 = 4) : Still (D.step a).1 f x := by
  unfold Dsk.step
  rcases ha with ⟨h1, h2⟩ | h1
  · split
    · exact h.sync h2
    split
    · exact h.truncate h2
    rw [if_neg (by omega), if_neg (by omega), if_neg (by omega), if_neg (by omega)]
    exact h.write h2
  · rw [if_neg (by omega), if_neg (by omega), if_pos h1]
    exact h.lose _
/-- what the successful Sync of a file leaves -/
theorem sync_still {D : Dsk} {f : Int} (h : (D.sync f).2 = 0) : D.down = false ∧ 0 ≤ f ∧ f < 16 ∧ Still (D.sync f).1 f (D.file f).1 ∧ (D.sync f).1.down = false := by
  have hm : D.tock.may f = 0 := by
    by_cases hm : D.tock.may f = 0
    · exact hm
    · unfold Dsk.sync Dsk.sync0 at h
      rw [if_pos hm] at h
      exact h
  obtain ⟨m1, m2, m3⟩ := may_zero hm
  have he : D.ends = false := by
    cases he : D.ends with
    | false => rfl
    | true =>
      exfalso
      have ht : D.tock = D.tick.crash D.keep := by simp [Dsk.tock, he]
      rw [ht] at m1
      unfold Dsk.crash at m1
      split at m1
      · rename_i hd
        rw [hd] at m1
        cases m1
      · simp at m1
  have ht : D.tock = D.tick := by simp [Dsk.tock, he]
  rw [ht] at m1
  have hf : D.tick.file = D.file ∧ D.tick.down = D.down := by
    unfold Dsk.tick
    split
    · exact ⟨rfl, rfl⟩
    · exact ⟨rfl, rfl⟩
  refine ⟨by rw [← hf.2]; exact m1, m2, m3, ?_⟩
  unfold Dsk.sync Dsk.sync0 at h ⊢
  rw [if_neg (by rw [hm]; simp)] at h ⊢
  rw [ht] at h ⊢
  by_cases hl : 0 < D.tick.lost
  · rw [if_pos hl] at h
    simp at h
  · rw [if_neg hl]
    refine ⟨⟨?_, fun p hp => ?_⟩, m1⟩
    · simp [Dsk.settle, setFile, hf.1]
    · have := (List.mem_filter.1 hp).2
      simpa using this
end Dsk
end
section
theorem getD_put (s : Str) (a : Nat) (t : Str) (i : Nat) : (put s a t).getD i 0 = if a ≤ i ∧ i < a + t.length then t.getD (i - a) 0 else s.getD i 0 := by
  by_cases ht : t = []
  · subst ht
    rw [if_neg (by simp only [List.length_nil]; omega)]
    simp [put]
  · have h1 : (s.take a ++ List.replicate (a - s.length) 0).length = a := by simp; omega
    unfold put
    rw [if_neg ht]
    simp only [List.getD_eq_getElem?_getD]
    by_cases h : i < a
    · rw [if_neg (by omega), List.append_assoc, List.getElem?_append_left (by omega)]
      by_cases h2 : i < s.length
      · rw [List.getElem?_append_left (by simp; omega), List.getElem?_take, if_pos h]
      · rw [List.getElem?_append_right (by simp; omega), List.getElem?_replicate]
        rw [List.getElem?_eq_none (l := s) (by omega)]
        split <;> rfl
    · by_cases h2 : i < a + t.length
      · rw [if_pos ⟨by omega, h2⟩, List.getElem?_append_left (by simp at h1 ⊢; omega), List.getElem?_append_right (by omega), h1]
      · rw [if_neg (by omega), List.getElem?_append_right (by simp at h1 ⊢; omega), List.getElem?_drop]
        congr 2
        simp at h1 ⊢
        omega

namespace Dsk
structure Tidy (D : Dsk) : Prop where
  len : ∀ f, (D.file f).2.length ≤ (D.file f).1.length
  clean : ∀ f (i : Nat), (f, ((i / 64 : Nat) : Int)) ∉ D.queue → (D.file f).1.getD i 0 = (D.file f).2.getD i 0
  last : ∀ f, (D.file f).2.length < (D.file f).1.length → (f, ((((D.file f).1.length - 1) / 64 : Nat) : Int)) ∈ D.queue

theorem Tidy.same {D E : Dsk} (h : D.Tidy) (h1 : E.file = D.file) (h2 : E.queue = D.queue) : E.Tidy := by
  refine ⟨?_, ?_, ?_⟩
  · rw [h1]; exact h.len
  · rw [h1, h2]; exact h.clean
  · rw [h1, h2]; exact h.last
theorem Tidy.init : Dsk.init.Tidy := ⟨fun _ => by simp [Dsk.init], fun _ _ _ => rfl, fun _ h => by simp [Dsk.init] at h⟩
theorem Tidy.crash {D : Dsk} (h : D.Tidy) (keep : List Int) : (D.crash keep).Tidy := by
  unfold Dsk.crash
  split
  · exact h
  · exact ⟨fun _ => Nat.le_refl _, fun _ _ _ => rfl, fun _ h => by simp at h⟩
theorem Tidy.tick {D : Dsk} (h : D.Tidy) : D.tick.Tidy := by
  unfold Dsk.tick
  split
  · exact h
  · exact h.same rfl rfl
theorem Tidy.tock {D : Dsk} (h : D.Tidy) : D.tock.Tidy := by
  unfold Dsk.tock
  split
  · exact h.tick.crash _
  · exact h.tick
theorem Tidy.settle {D : Dsk} (h : D.Tidy) (f : Int) (s : Str) : (D.settle f s).Tidy := by
  have hq : ∀ g n, g ≠ f → ((g, n) ∈ (D.settle f s).queue ↔ (g, n) ∈ D.queue) := fun g n hg => by
    simp [Dsk.settle, List.mem_filter, hg]
  refine ⟨fun g => ?_, fun g i hi => ?_, fun g hg => ?_⟩
  · by_cases e : g = f
    · simp [Dsk.settle, setFile, e]
    · simpa [Dsk.settle, setFile, e] using h.len g
  · by_cases e : g = f
    · simp [Dsk.settle, setFile, e]
    · have := h.clean g i (fun hc => hi ((hq g _ e).2 hc))
      simpa [Dsk.settle, setFile, e] using this
  · by_cases e : g = f
    · simp [Dsk.settle, setFile, e] at hg
    · have he : (D.settle f s).file g = D.file g := by simp [Dsk.settle, setFile, e]
      rw [he] at hg ⊢
      exact (hq g _ e).2 (h.last g hg)
theorem mem_secs (a n : Nat) (k : Int) : k ∈ secs a n ↔ ∃ j : Nat, k = (j : Int) ∧ a / 64 ≤ j ∧ j ≤ (a + n - 1) / 64 := by
  unfold secs
  rw [List.mem_map]
  constructor
  · rintro ⟨i, hi, rfl⟩
    rw [List.mem_range] at hi
    exact ⟨a / 64 + i, rfl, by omega, by omega⟩
  · rintro ⟨j, rfl, h1, h2⟩
    exact ⟨j - a / 64, List.mem_range.2 (by omega), by congr 1; omega⟩
theorem Tidy.add {D : Dsk} (h : D.Tidy) (f : Int) (a : Nat) (s : Str) : (D.add f a s).Tidy := by
  by_cases hs : s = []
  · unfold Dsk.add
    rw [if_pos hs]
    exact h
  · have hsl : 0 < s.length := List.length_pos_iff.2 hs
    have hqe : (D.add f a s).queue = pushAll D.queue f (secs a s.length) := by simp [Dsk.add, hs]
    have hof : ∀ g, g ≠ f → (D.add f a s).file g = D.file g := fun g e => by simp [Dsk.add, hs, setFile, e]
    have hff := add_file D f a s
    refine ⟨fun g => ?_, fun g i hi => ?_, fun g hg => ?_⟩
    · by_cases e : g = f
      · subst e
        rw [hff]
        simp only
        rw [length_put _ _ _ hs]
        have := h.len g
        omega
      · rw [hof g e]; exact h.len g
    · rw [hqe, mem_pushAll] at hi
      by_cases e : g = f
      · subst e
        rw [hff]
        simp only
        have hn : ¬ (a ≤ i ∧ i < a + s.length) := fun hc => hi (.inr ⟨rfl, (mem_secs _ _ _).2 ⟨i / 64, rfl, by omega, by omega⟩⟩)
        rw [getD_put, if_neg hn]
        exact h.clean g i (fun hc => hi (.inl hc))
      · rw [hof g e]
        exact h.clean g i (fun hc => hi (.inl hc))
    · rw [hqe, mem_pushAll]
      by_cases e : g = f
      · subst e
        rw [hff] at hg ⊢
        simp only at hg ⊢
        rw [length_put _ _ _ hs] at hg ⊢
        by_cases hl : (D.file g).1.length ≤ a + s.length
        · refine .inr ⟨trivial, (mem_secs _ _ _).2 ⟨_, rfl, ?_, ?_⟩⟩
          · omega
          · omega
        · refine .inl ?_
          have := h.last g (by omega)
          rwa [Nat.max_eq_left (by omega)]
      · rw [hof g e] at hg ⊢
        exact .inl (h.last g hg)
theorem Tidy.write0 {D : Dsk} (h : D.Tidy) (f a : Int) (s : Str) : (D.write0 f a s).1.Tidy := by
  unfold Dsk.write0
  split
  · exact h
  split
  · exact h
  split
  · exact h
  · exact h.add _ _ _
theorem Tidy.step {D : Dsk} (h : D.Tidy) (a : DAct) : (D.step a).1.Tidy := by
  unfold Dsk.step
  split
  · unfold Dsk.sync Dsk.sync0
    split
    · exact h.tock
    split
    · exact h.tock.same rfl rfl
    · exact h.tock.settle _ _
  split
  · unfold Dsk.truncate Dsk.truncate0
    split
    · exact h.tock
    split
    · exact h.tock
    · exact h.tock.settle _ _
  split
  · exact h.same rfl rfl
  split
  · exact h.same rfl rfl
  split
  · exact h.crash _
  split
  · exact h.same rfl rfl
  · unfold Dsk.write
    split
    · exact (h.tick.write0 _ _ _).crash _
    · exact h.tick.write0 _ _ _
theorem Tidy.steps (l : List DAct) : ∀ {D : Dsk}, D.Tidy → (D.steps l).Tidy := by
  induction l with
  | nil => intro D h; exact h
  | cons a l ih => intro D h; exact ih (h.step a)

/-- what a crash leaves of one file: of some of the pending sectors all, of the others nothing -/
structure Torn (now last some_ : Str) (K : Int → Prop) : Prop where
  byte : ∀ j : Nat, (K ((j / 64 : Nat) : Int) → some_.getD j 0 = now.getD j 0) ∧ (¬ K ((j / 64 : Nat) : Int) → some_.getD j 0 = last.getD j 0)
  lo : last.length ≤ some_.length
  hi : some_.length ≤ now.length
  sec : ∀ n : Nat, K (n : Int) → 64 * n < now.length → min (64 * n + 64) now.length ≤ some_.length

theorem crashF_torn (keep : List Int) (f : Int) : ∀ (q : List (Int × Int)) (i : Nat) (g : Int → Str × Str), (∀ p ∈ q, 0 ≤ p.2) → (g f).2.length ≤ (g f).1.length →
    ∃ K : Int → Prop, (∀ n, K n → (f, n) ∈ q) ∧ (keep = [1] → ∀ n, (f, n) ∈ q → K n) ∧ Torn (g f).1 (g f).2 (crashF keep i q g f).2 K
  | [], i, g, _, hl => ⟨fun _ => False, fun _ h => h.elim, fun _ n h => by simp at h, ⟨fun j => ⟨fun h => h.elim, fun _ => rfl⟩, Nat.le_refl _, hl, fun _ h => h.elim⟩⟩
  | p :: q, i, g, hq, hl => by
    have hq' : ∀ r ∈ q, 0 ≤ r.2 := fun r hr => hq r (by simp [hr])
    by_cases hk : survives keep i = true ∧ p.1 = f
    · obtain ⟨hk, hp⟩ := hk
      have e0 : crashF keep i (p :: q) g = crashF keep (i + 1) q (survive g p) := by simp [crashF, hk]
      rw [e0]
      obtain ⟨n0, hn0⟩ : ∃ n0 : Nat, p.2 = (n0 : Int) := ⟨p.2.toNat, by have := hq p (by simp); omega⟩
      have hpe : p = (f, (n0 : Int)) := by rw [← hp, ← hn0]
      subst hpe
      by_cases hlt : 64 * n0 < (g f).1.length
      · have hsv : survive g (f, (n0 : Int)) f = ((g f).1, put (g f).2 (64 * n0) (((g f).1.drop (64 * n0)).take 64)) := by
          unfold survive
          simp only
          rw [show (((n0 : Int) * 64).toNat) = 64 * n0 by omega, if_pos hlt]
          simp [setFile]
        have htl : (((g f).1.drop (64 * n0)).take 64).length = min 64 ((g f).1.length - 64 * n0) := by simp
        have htn : ((g f).1.drop (64 * n0)).take 64 ≠ [] := by
          intro e
          rw [e] at htl
          simp at htl
          omega
        have hpl := length_put (g f).2 (64 * n0) _ htn
        rw [htl] at hpl
        obtain ⟨K, k1, k2, k3⟩ := crashF_torn keep f q (i + 1) (survive g (f, (n0 : Int))) hq' (by rw [hsv]; simp only; rw [hpl]; omega)
        rw [hsv] at k3
        simp only at k3
        refine ⟨fun n => K n ∨ n = (n0 : Int), fun n hn => ?_, fun hk1 n hn => ?_, ?_⟩
        · rcases hn with hn | rfl
          · exact List.mem_cons_of_mem _ (k1 n hn)
          · exact List.mem_cons_self
        · rcases List.mem_cons.1 hn with e | hn
          · exact .inr (by injection e)
          · exact .inl (k2 hk1 n hn)
        · have hbyte : ∀ j : Nat, j / 64 = n0 → (put (g f).2 (64 * n0) (((g f).1.drop (64 * n0)).take 64)).getD j 0 = (g f).1.getD j 0 := by
            intro j hj
            rw [getD_put, htl]
            split
            · rename_i hc
              simp only [List.getD_eq_getElem?_getD]
              rw [List.getElem?_take, if_pos (by omega), List.getElem?_drop]
              congr 2
              omega
            · rename_i hc
              simp only [List.getD_eq_getElem?_getD]
              rw [List.getElem?_eq_none (l := (g f).1) (by omega), List.getElem?_eq_none (l := (g f).2) (by omega)]
          refine ⟨fun j => ⟨fun hj => ?_, fun hj => ?_⟩, by have := k3.lo; omega, k3.hi, fun n hn hn2 => ?_⟩
          · by_cases hKj : K ((j / 64 : Nat) : Int)
            · exact (k3.byte j).1 hKj
            · have hj' : j / 64 = n0 := by
                rcases hj with hj | hj
                · exact absurd hj hKj
                · omega
              rw [(k3.byte j).2 hKj]
              exact hbyte j hj'
          · have hKj : ¬ K ((j / 64 : Nat) : Int) := fun hc => hj (.inl hc)
            have hj' : j / 64 ≠ n0 := fun hc => hj (.inr (by omega))
            rw [(k3.byte j).2 hKj, getD_put, if_neg (by rw [htl]; omega)]
          · rcases hn with hn | hn
            · exact k3.sec n hn hn2
            · have : n = n0 := by omega
              subst this
              have := k3.lo
              omega
      · have hsv : survive g (f, (n0 : Int)) = g := by
          unfold survive
          simp only
          rw [show (((n0 : Int) * 64).toNat) = 64 * n0 by omega, if_neg hlt]
        rw [hsv]
        obtain ⟨K, k1, k2, k3⟩ := crashF_torn keep f q (i + 1) g hq' hl
        refine ⟨fun n => K n ∨ n = (n0 : Int), fun n hn => ?_, fun hk1 n hn => ?_, ?_⟩
        · rcases hn with hn | rfl
          · exact List.mem_cons_of_mem _ (k1 n hn)
          · exact List.mem_cons_self
        · rcases List.mem_cons.1 hn with e | hn
          · exact .inr (by injection e)
          · exact .inl (k2 hk1 n hn)
        · refine ⟨fun j => ⟨fun hj => ?_, fun hj => ?_⟩, k3.lo, k3.hi, fun n hn hn2 => ?_⟩
          · by_cases hKj : K ((j / 64 : Nat) : Int)
            · exact (k3.byte j).1 hKj
            · have hj' : j / 64 = n0 := by
                rcases hj with hj | hj
                · exact absurd hj hKj
                · omega
              rw [(k3.byte j).2 hKj]
              simp only [List.getD_eq_getElem?_getD]
              rw [List.getElem?_eq_none (l := (g f).1) (by omega), List.getElem?_eq_none (l := (g f).2) (by omega)]
          · exact (k3.byte j).2 fun hc => hj (.inl hc)
          · rcases hn with hn | hn
            · exact k3.sec n hn hn2
            · omega
    · have hg : (if survives keep i then survive g p else g) f = g f := by
        split
        · rename_i hs
          have hp : p.1 ≠ f := fun e => hk ⟨hs, e⟩
          unfold survive
          split
          · simp [setFile, Ne.symm hp]
          · rfl
        · rfl
      have e0 : crashF keep i (p :: q) g = crashF keep (i + 1) q (if survives keep i then survive g p else g) := rfl
      rw [e0]
      obtain ⟨K, k1, k2, k3⟩ := crashF_torn keep f q (i + 1) (if survives keep i then survive g p else g) hq' (by rw [hg]; exact hl)
      rw [hg] at k3
      refine ⟨K, fun n hn => List.mem_cons_of_mem _ (k1 n hn), fun hk1 n hn => ?_, k3⟩
      rcases List.mem_cons.1 hn with e | hn
      · exfalso
        apply hk
        subst hk1
        refine ⟨by simp [survives, Nat.mod_one], ?_⟩
        rw [← e]
      · exact k2 hk1 n hn

theorem str_ext {a b : Str} (hl : a.length = b.length) (h : ∀ i : Nat, a.getD i 0 = b.getD i 0) : a = b := by
  apply List.ext_getElem hl
  intro i h1 h2
  have := h i
  simpa [List.getD_eq_getElem?_getD, List.getElem?_eq_getElem h1, List.getElem?_eq_getElem h2] using this

/-- after a crash in which everything survives the file is what it was -/
theorem crash_all {D : Dsk} (ht : D.Tidy) (hok : D.Ok) (f : Int) : (crashF [1] 0 D.queue D.file f).2 = (D.file f).1 := by
  obtain ⟨K, k1, k2, k3⟩ := crashF_torn [1] f D.queue 0 D.file (fun p hp => (hok.q p hp).2.2.1) (ht.len f)
  have hlen : (crashF [1] 0 D.queue D.file f).2.length = (D.file f).1.length := by
    have h1 := k3.lo
    have h2 := k3.hi
    by_cases hl : (D.file f).2.length < (D.file f).1.length
    · have := k3.sec _ (k2 rfl _ (ht.last f hl)) (by omega)
      omega
    · omega
  refine str_ext hlen fun i => ?_
  by_cases hK : K ((i / 64 : Nat) : Int)
  · exact (k3.byte i).1 hK
  · rw [(k3.byte i).2 hK]
    exact (ht.clean f i (fun hc => hK (k2 rfl _ hc))).symm
/-- .. in which nothing survives: what is durable -/
theorem crash_none (D : Dsk) (f : Int) : (crashF [] 0 D.queue D.file f).2 = (D.file f).2 := by rw [crashF_nil]
/-- .. in any: sector by sector the one or the other -/
theorem crash_some {D : Dsk} (ht : D.Tidy) (hok : D.Ok) (keep : List Int) (f : Int) : (D.file f).2.length ≤ (crashF keep 0 D.queue D.file f).2.length ∧ (crashF keep 0 D.queue D.file f).2.length ≤ (D.file f).1.length ∧
    ∀ n : Nat, (∀ j : Nat, j / 64 = n → (crashF keep 0 D.queue D.file f).2.getD j 0 = (D.file f).1.getD j 0) ∨ (∀ j : Nat, j / 64 = n → (crashF keep 0 D.queue D.file f).2.getD j 0 = (D.file f).2.getD j 0) := by
  obtain ⟨K, _, _, k3⟩ := crashF_torn keep f D.queue 0 D.file (fun p hp => (hok.q p hp).2.2.1) (ht.len f)
  refine ⟨k3.lo, k3.hi, fun n => ?_⟩
  by_cases hK : K (n : Int)
  · exact .inl fun j hj => (k3.byte j).1 (by rw [hj]; exact hK)
  · exact .inr fun j hj => (k3.byte j).2 (by rw [hj]; exact hK)
end Dsk
end
section
open Go.RowKit

structure Qt (D : Dsk) : Prop where
  down : D.down = false
  armed : D.armed = 0
  ok : D.Ok
  tidy : D.Tidy
namespace Qt
variable {D : Dsk} {f : Int}
theorem calm (h : Qt D) (hl : D.lost = 0) : Calm D := ⟨h.down, h.armed, hl⟩
theorem ends (h : Qt D) : D.ends = false := by unfold Dsk.ends; rw [h.armed]; simp
theorem tick (h : Qt D) : D.tick = D := by unfold Dsk.tick; rw [h.armed]; simp
theorem tock (h : Qt D) : D.tock = D := by unfold Dsk.tock; rw [h.ends, h.tick]; rfl
theorem may (h : Qt D) (h0 : 0 ≤ f) (h1 : f ≤ 15) : D.may f = 0 := by
  unfold Dsk.may
  rw [h.down, if_neg (by decide), if_neg (by omega)]
theorem init : Qt Dsk.init := ⟨rfl, rfl, by
  constructor <;> simp [Dsk.init], Dsk.Tidy.init⟩
theorem settle (h : Qt D) (h0 : 0 ≤ f) (h1 : f ≤ 15) {s : Str} (hs : s.length ≤ 16777216) : Qt (D.settle f s) := ⟨h.down, h.armed, h.ok.settle h0 (by omega) hs, h.tidy.settle f s⟩
theorem lose (h : Qt D) (n : Int) (hn : I64 n) : Qt (D.lose n) := ⟨h.down, h.armed, by
  have := h.ok
  exact ⟨this.lens, this.out, this.q, this.nodup, by show 0 ≤ max n 0 ∧ max n 0 ≤ _; unfold I64 at hn; omega, this.armed, this.keep⟩, h.tidy.same rfl rfl⟩
theorem less (h : Qt D) (hl : 0 < D.lost) : Qt { D with lost := D.lost - 1 } := ⟨h.down, h.armed, ⟨h.ok.lens, h.ok.out, h.ok.q, h.ok.nodup, by have := h.ok.lost; show 0 ≤ D.lost - 1 ∧ D.lost - 1 ≤ _; omega, h.ok.armed, h.ok.keep⟩, h.tidy.same rfl rfl⟩
theorem crash (h : Qt D) (keep : List Int) : Qt (D.crash keep).start := by
  refine ⟨rfl, ?_, ?_, (h.tidy.crash keep).same rfl rfl⟩
  · show (D.crash keep).armed = 0
    unfold Dsk.crash; rw [h.down]; rfl
  · have := h.ok.crash keep
    exact ⟨this.lens, this.out, this.q, this.nodup, this.lost, this.armed, this.keep⟩
theorem write (h : Qt D) (h0 : 0 ≤ f) (h1 : f ≤ 15) (a : Nat) (s : Str) (hs : a + s.length ≤ 16777216) : D.write f ((a : Nat) : Int) s = (D.add f a s, 0) := by
  unfold Dsk.write Dsk.write0
  rw [h.ends, if_neg (by decide), h.tick, if_neg (by rw [h.may h0 h1]; decide), if_neg (by omega), if_neg (by unfold Dsk.fits; omega)]
  rfl
theorem addq (h : Qt D) (h0 : 0 ≤ f) (h1 : f ≤ 15) (a : Nat) (s : Str) (hs : a + s.length ≤ 16777216) : Qt (D.add f a s) := by
  obtain ⟨e1, e2, _⟩ := Dsk.add_same D f a s
  exact ⟨e1.trans h.down, e2.trans h.armed, h.ok.add h0 (by omega) hs, h.tidy.add f a s⟩
theorem sync_lost (h : Qt D) (h0 : 0 ≤ f) (h1 : f ≤ 15) (hl : 0 < D.lost) : D.sync f = ({ D with lost := D.lost - 1 }, 9) := by
  unfold Dsk.sync Dsk.sync0
  rw [h.tock, if_neg (by rw [h.may h0 h1]; decide), if_pos hl]
theorem sync_ok (h : Qt D) (h0 : 0 ≤ f) (h1 : f ≤ 15) (hl : ¬ 0 < D.lost) : D.sync f = (D.settle f (D.file f).1, 0) := by
  unfold Dsk.sync Dsk.sync0
  rw [h.tock, if_neg (by rw [h.may h0 h1]; decide), if_neg hl]
end Qt
/-- a journal that is known of file 0 -/
def JOk (D : Dsk) (J : Jn) : Prop := J.f = 0 ∧ (D.file 0).1 = forms J.l ∧ J.n = (forms J.l).length ∧ ∀ t ∈ J.l, t.length ≤ 20000
def SInv (i : Nat) (D : Dsk) (oj : Option Jn) : Prop := Qt D ∧ (D.file 0).1.length ≤ 300 * i ∧ ∀ J, oj = some J → JOk D J
theorem SInv.mono {i k : Nat} {D : Dsk} {oj : Option Jn} (h : SInv i D oj) (hk : i ≤ k) : SInv k D oj := ⟨h.1, by have := h.2.1; omega, h.2.2⟩
theorem SInv.nil {i : Nat} {D : Dsk} {oj : Option Jn} (h : SInv i D oj) : SInv i D none := ⟨h.1, h.2.1, fun _ e => by cases e⟩
theorem SInv.init : SInv 0 Dsk.init none := ⟨Qt.init, Nat.le_refl _, fun _ e => by cases e⟩
theorem SInv.lose {i : Nat} {D : Dsk} {oj : Option Jn} (h : SInv i D oj) {n : Int} (hn : I64 n) : SInv i (D.lose n) oj := ⟨h.1.lose n hn, h.2.1, h.2.2⟩
theorem SInv.crash {i : Nat} {D : Dsk} {oj : Option Jn} (h : SInv i D oj) (keep : List Int) : SInv i (D.crash keep).start none := by
  refine ⟨h.1.crash keep, ?_, fun _ e => by cases e⟩
  have h1 := (Dsk.crash_up keep h.1.down 0).1
  have h2 := (Dsk.crash_some h.1.tidy h.1.ok keep 0).2.1
  have h3 := h.2.1
  show ((D.crash keep).file 0).1.length ≤ _
  rw [h1]; omega
/-- opening, behind the disk's sync -/
theorem open_lost {D : Dsk} (h : Qt D) (hl : 0 < D.lost) : openJ D 0 = ({ D with lost := D.lost - 1 }, 9, none) := by
  unfold openJ
  rw [if_neg (by decide), h.sync_lost (by decide) (by decide) hl, if_pos (by show (9 : Int) ≠ 0; decide)]
theorem open_ok {D : Dsk} (h : Qt D) (hl : ¬ 0 < D.lost) : ∃ D', openJ D 0 = (D', 0, some ⟨0, recs (D.file 0).1, (forms (recs (D.file 0).1)).length, false⟩) ∧ Qt D' ∧ (D'.file 0).1 = forms (recs (D.file 0).1) ∧ D'.lost = D.lost ∧ (Dsk.Still D' 0 (forms (recs (D.file 0).1))) := by
  have hs := h.sync_ok (f := 0) (by decide) (by decide) hl
  have hL := (h.ok.lens 0).1
  have hc : Qt (D.settle 0 (D.file 0).1) := h.settle (by decide) (by decide) hL
  have hz : D.lost = 0 := by have := h.ok.lost; omega
  have hcc : Calm (D.settle 0 (D.file 0).1) := hc.calm hz
  have hf : ((D.settle 0 (D.file 0).1).file 0).1 = (D.file 0).1 := settle_file _ _ _
  have hr : (D.settle 0 (D.file 0).1).read 0 0 (((D.settle 0 (D.file 0).1).size 0 : Nat) : Int) = ((D.file 0).1, 0) := by
    have := hcc.read (f := 0) (by decide) (by decide) ((D.settle 0 (D.file 0).1).size 0) (Nat.le_refl _)
    rw [this, hf]
  have hst : ∀ (E : Dsk) (s : Str), Dsk.Still (E.settle 0 s) 0 s := fun E s => ⟨by
    show Dsk.setFile E.file 0 (s, s) 0 = (s, s)
    unfold Dsk.setFile; rw [if_pos rfl], fun p hp => by
    have : p ∈ E.queue.filter fun p => !(p.1 == 0) := hp
    have := (List.mem_filter.1 this).2
    simpa using this⟩
  unfold openJ
  rw [if_neg (by decide), hs, if_neg (fun h => h rfl)]
  simp only
  rw [hr, if_neg (fun h => h rfl)]
  simp only
  have hle := recs_le (D.file 0).1
  split
  · have ht := hcc.truncate (f := 0) (by decide) (by decide) (forms (recs (D.file 0).1)).length (by rw [hf]; exact hle)
    rw [hf, recs_take] at ht
    rw [ht, if_neg (fun h => h rfl)]
    exact ⟨_, rfl, hc.settle (by decide) (by decide) (by omega), settle_file _ _ _, rfl, hst _ _⟩
  · have e : (D.file 0).1 = forms (recs (D.file 0).1) := by
      have := recs_take (D.file 0).1
      rwa [List.take_of_length_le (by omega)] at this
    refine ⟨_, rfl, hc, hf.trans e, rfl, ?_⟩
    have := hst D (D.file 0).1
    rw [← e]; exact this
theorem SInv.open {i : Nat} {D : Dsk} {oj : Option Jn} (h : SInv i D oj) : SInv i (openJ D 0).1 (openJ D 0).2.2 := by
  by_cases hl : 0 < D.lost
  · rw [open_lost h.1 hl]
    exact ⟨h.1.less hl, h.2.1, fun _ e => by cases e⟩
  · obtain ⟨D', e, q, f, _, _⟩ := open_ok h.1 hl
    rw [e]
    refine ⟨q, ?_, fun J hJ => ?_⟩
    · show (D'.file 0).1.length ≤ _
      have := recs_le (D.file 0).1
      have := h.2.1
      rw [f]; omega
    · obtain rfl := (Option.some.inj hJ).symm
      exact ⟨rfl, f, rfl, fun t ht => recs_short ht⟩
theorem SInv.append {i : Nat} {D : Dsk} {J : Jn} (h : SInv i D (some J)) (hi : i ≤ 100) {t : Str} (ht : t.length ≤ 200) : SInv (i + 1) (J.append D t).1 (some (J.append D t).2.1) ∧ (((J.append D t).2.2 = 0 ∧ (J.append D t).2.1.l = J.l ++ [t]) ∨ ((J.append D t).2.2 = 7 ∧ (J.append D t).2.1.l = J.l)) := by
  obtain ⟨q, hb, hJ⟩ := h
  obtain ⟨j1, j2, j3, j4⟩ := hJ J rfl
  have hfl := form_len (t := t) (by omega)
  have hn : J.n ≤ 300 * i := by rw [j3, ← j2]; exact hb
  unfold Jn.append
  by_cases hbad : J.bad = true
  · rw [if_pos hbad]
    exact ⟨⟨q, Nat.le_trans hb (by omega), fun J' e => by obtain rfl := Option.some.inj e; exact ⟨j1, j2, j3, j4⟩⟩, .inr ⟨rfl, rfl⟩⟩
  have e1 : ¬ 20000 < t.length := by omega
  have e2 : ¬ 1048576 < J.n + (form t).length := by omega
  rw [if_neg hbad, if_neg e1, if_neg e2]
  have hw := q.write (f := J.f) (by omega) (by omega) J.n (form t) (by omega)
  rw [hw, if_neg (fun h => h rfl)]
  have hf : ((D.add J.f J.n (form t)).file 0).1 = forms (J.l ++ [t]) := by
    rw [j1, add_file, j2, j3, put_end, forms_app, forms_one]
  refine ⟨⟨q.addq (by omega) (by omega) _ _ (by omega), ?_, fun J' e => ?_⟩, .inl ⟨rfl, rfl⟩⟩
  · show ((D.add J.f J.n (form t)).file 0).1.length ≤ _
    have hn2 : (forms J.l).length ≤ 300 * i := by rw [← j2]; exact hb
    rw [hf, forms_app, forms_one, List.length_append]; omega
  · obtain rfl := Option.some.inj e
    refine ⟨j1, hf, ?_, fun x hx => ?_⟩
    · show J.n + (form t).length = _
      rw [forms_app, forms_one, List.length_append, j3]
    · rcases List.mem_append.1 hx with hx | hx
      · exact j4 x hx
      · rw [List.mem_singleton.1 hx]; omega
theorem SInv.sync {i : Nat} {D : Dsk} {J : Jn} (h : SInv i D (some J)) : SInv i (J.sync D).1 (some (J.sync D).2.1) ∧ (J.sync D).2.1.l = J.l ∧ ((J.sync D).2.2 = 0 → Dsk.Still (J.sync D).1 0 (forms J.l)) := by
  obtain ⟨q, hb, hJ⟩ := h
  obtain ⟨j1, j2, j3, j4⟩ := hJ J rfl
  unfold Jn.sync
  by_cases hbad : J.bad = true
  · rw [if_pos hbad]
    exact ⟨⟨q, hb, hJ⟩, rfl, fun h => by cases h⟩
  rw [if_neg hbad, j1]
  by_cases hl : 0 < D.lost
  · rw [q.sync_lost (by decide) (by decide) hl]
    exact ⟨⟨q.less hl, hb, fun J' e => by obtain rfl := Option.some.inj e; exact ⟨rfl, j2, j3, j4⟩⟩, rfl, fun h => by cases h⟩
  · rw [q.sync_ok (by decide) (by decide) hl]
    have hf := settle_file D 0 (D.file 0).1
    refine ⟨⟨q.settle (by decide) (by decide) (q.ok.lens 0).1, ?_, fun J' e => ?_⟩, rfl, fun _ => ?_⟩
    · show ((D.settle 0 (D.file 0).1).file 0).1.length ≤ _
      rw [hf]; exact hb
    · obtain rfl := Option.some.inj e
      exact ⟨rfl, hf.trans j2, j3, j4⟩
    · rw [← j2]
      refine ⟨?_, fun p hp => ?_⟩
      · show Dsk.setFile D.file 0 ((D.file 0).1, (D.file 0).1) 0 = _
        unfold Dsk.setFile; rw [if_pos rfl]
      · have : p ∈ D.queue.filter fun p => !(p.1 == 0) := hp
        have := (List.mem_filter.1 this).2
        simpa using this
/-- what stands durably is found again -/
structure Kept (D : Dsk) (W : List Str) : Prop where
  qt : Qt D
  lost : D.lost = 0
  still : Dsk.Still D 0 (forms W)
  short : ∀ t ∈ W, t.length ≤ 20000
theorem Kept.round {D : Dsk} {W : List Str} (h : Kept D W) (keep : List Int) : ∃ D', openJ (D.crash keep).start 0 = (D', 0, some ⟨0, W, (forms W).length, false⟩) ∧ Kept D' W := by
  have q := h.qt.crash keep
  have s1 : Dsk.Still (D.crash keep).start 0 (forms W) := h.still.crash keep
  have hl : ((D.crash keep).start).lost = 0 := by
    show (D.crash keep).lost = 0
    unfold Dsk.crash; rw [h.qt.down]; exact h.lost
  obtain ⟨D', e, q', f, l, s⟩ := open_ok q (by rw [hl]; decide)
  have hf : ((D.crash keep).start.file 0).1 = forms W := by rw [s1.1]
  rw [hf, recs_forms W h.short] at e s
  exact ⟨D', e, q', l.trans hl, s, h.short⟩
theorem Kept.of {i : Nat} {D : Dsk} {J : Jn} (h : SInv i D (some J)) (hs : (J.sync D).2.2 = 0) : Kept ((J.sync D).1.lose 0) J.l := by
  obtain ⟨h1, h2, h3⟩ := h.sync
  exact ⟨h1.1.lose 0 (by unfold I64; omega), rfl, (h3 hs).lose 0, by
    obtain ⟨_, _, hJ⟩ := h
    exact (hJ J rfl).2.2.2⟩
end
end Go.Proofs.YtlnadcihnfppaaaDoor
