/-
  The acts of the disk's laws as plain data, and the plain laws of DiskReads and DiskSynced. No condition: definitions and plain lemmas.
-/
import Derived.Test.YtddmgkppefhlbaaDsk2
namespace Go.Proofs.Ytddmgkppefhlbaa
set_option linter.unusedVariables false
set_option linter.unusedSimpArgs false
set_option linter.unusedSectionVars false

structure DAct where
  d : Int
  f : Int
  n : Int
  s : Str
  keep : List Int

def DAct.small (a : DAct) : Prop := a.s.length ≤ 300 ∧ a.keep.length ≤ 60 ∧ (a.n ≤ 3000 ∨ 16776916 ≤ a.n)
instance (a : DAct) : Decidable a.small := inferInstanceAs (Decidable (_ ∧ _ ∧ _))
def smallB (l : List DAct) : Bool := decide (∀ a ∈ l, a.small)
def fewB (l : List DAct) : Bool := smallB l && decide (l.length ≤ 40)
theorem fewB_mem {l : List DAct} (h : fewB l = true) : (∀ a ∈ l, a.small) ∧ l.length ≤ 40 := by
  simp [fewB, smallB] at h
  exact h

namespace Dsk
def step (D : Dsk) (a : DAct) : Dsk × Int :=
  if a.d % 8 = 2 then D.sync a.f
  else if a.d % 8 = 3 then D.truncate a.f a.n
  else if a.d % 8 = 4 then (D.lose (a.n % 4), 0)
  else if a.d % 8 = 5 then (D.arm a.n a.keep, 0)
  else if a.d % 8 = 6 then (D.crash a.keep, 0)
  else if a.d % 8 = 7 then (D.start, 0)
  else D.write a.f a.n a.s
def steps (D : Dsk) (l : List DAct) : Dsk := l.foldl (fun D a => (D.step a).1) D
theorem steps_snoc (D : Dsk) (l : List DAct) (a : DAct) : D.steps (l ++ [a]) = ((D.steps l).step a).1 := by simp [steps]

theorem Ok.truncate {D : Dsk} (h : D.Ok) (f n : Int) : (D.truncate f n).1.Ok := h.tock.truncate0 f n
theorem Ok.sync {D : Dsk} (h : D.Ok) (f : Int) : (D.sync f).1.Ok := h.tock.sync0 f
theorem Ok.step {D : Dsk} (h : D.Ok) (a : DAct) (hn : I64 a.n) (hk : a.keep.length ≤ 60) : (D.step a).1.Ok := by
  unfold Dsk.step
  split
  · exact h.sync _
  split
  · exact h.truncate _ _
  split
  · exact h.lose _ (by unfold I64; omega)
  split
  · exact h.arm _ hn _ (by omega)
  split
  · exact h.crash _
  split
  · exact h.start
  · exact h.write _ _ _
theorem Ok.steps {l : List DAct} : ∀ {D : Dsk}, D.Ok → (∀ a ∈ l, I64 a.n ∧ a.keep.length ≤ 60) → (D.steps l).Ok := by
  induction l with
  | nil => intro D h _; exact h
  | cons a l ih => intro D h hl; exact ih (h.step a (hl a (by simp)).1 (hl a (by simp)).2) fun b hb => hl b (by simp [hb])

theorem ends_zero {D : Dsk} (h : D.armed = 0) : D.ends = false := by simp [ends, h]
theorem tick_zero {D : Dsk} (h : D.armed = 0) : D.tick = D := by simp [tick, h]
theorem tock_zero {D : Dsk} (h : D.armed = 0) : D.tock = D := by simp [tock, ends_zero h, tick_zero h]
theorem may_up {D : Dsk} {f : Int} (hd : D.down = false) (h0 : 0 ≤ f) (h1 : f < 16) : D.may f = 0 := by
  unfold may
  rw [hd, if_neg (by simp), if_neg (by omega)]
theorem write0_up {D : Dsk} {f at_ : Int} {s : Str} (hd : D.down = false) (h0 : 0 ≤ f) (h1 : f < 16) (hat : 0 ≤ at_) (h2 : at_ + s.length ≤ 16777216) : D.write0 f at_ s = (D.add f at_.toNat s, 0) := by
  unfold write0
  rw [may_up hd h0 h1, if_neg (by simp), if_neg (by omega), if_neg (by simp [fits]; omega)]
theorem write_up {D : Dsk} {f at_ : Int} {s : Str} (hd : D.down = false) (ha : D.armed = 0) (h0 : 0 ≤ f) (h1 : f < 16) (hat : 0 ≤ at_) (h2 : at_ + s.length ≤ 16777216) : D.write f at_ s = (D.add f at_.toNat s, 0) := by
  unfold write
  rw [ends_zero ha, if_neg (by simp), tick_zero ha, write0_up hd h0 h1 hat h2]
theorem write_no {D : Dsk} {f at_ : Int} {s : Str} (ha : D.armed = 0) (h : D.down = true ∨ f < 0 ∨ 16 ≤ f) : (D.write f at_ s).2 ≠ 0 := by
  unfold write
  rw [ends_zero ha, if_neg (by simp), tick_zero ha]
  have hm : D.may f ≠ 0 := by
    unfold may
    split
    · omega
    · split
      · omega
      · rename_i h1 h2
        simp at h1
        rw [h1] at h
        simp at h
        omega
  unfold write0
  rw [if_pos hm]
  exact hm
theorem read_up {D : Dsk} {f a n : Int} (hd : D.down = false) (h0 : 0 ≤ f) (h1 : f < 16) (ha : 0 ≤ a) (hn : 0 ≤ n) : D.read f a n = (readS (D.file f).1 a.toNat n.toNat, 0) := by
  unfold read
  rw [may_up hd h0 h1, if_neg (by simp), if_neg (by omega)]
theorem readS_whole (s : Str) (n : Nat) (h : s.length ≤ n) : readS s 0 n = s := by
  simp [readS, List.take_of_length_le h]
theorem read_all {D : Dsk} {f : Int} (hd : D.down = false) (h0 : 0 ≤ f) (h1 : f < 16) (hok : D.Ok) : D.read f 0 16777216 = ((D.file f).1, 0) := by
  rw [read_up hd h0 h1 (by omega) (by omega)]
  rw [show (0 : Int).toNat = 0 from rfl, show (16777216 : Int).toNat = 16777216 from rfl, readS_whole _ _ (hok.lens f).1]
theorem read_no {D : Dsk} {f a n : Int} (h : D.may f ≠ 0) : D.read f a n = ([], D.may f) := by
  unfold read
  rw [if_pos h]

theorem add_file (D : Dsk) (f : Int) (a : Nat) (s : Str) : (D.add f a s).file f = (put (D.file f).1 a s, (D.file f).2) := by
  by_cases hs : s = []
  · simp [add, hs, put]
  · simp [add, hs, setFile]
theorem add_same (D : Dsk) (f : Int) (a : Nat) (s : Str) : (D.add f a s).down = D.down ∧ (D.add f a s).armed = D.armed ∧ (D.add f a s).lost = D.lost ∧ (D.add f a s).keep = D.keep := by
  by_cases hs : s = []
  · simp [add, hs]
  · simp [add, hs]
theorem readS_put (s : Str) (a : Nat) (t : Str) : readS (put s a t) a t.length = t := by
  by_cases ht : t = []
  · simp [readS, ht]
  · have h1 : (s.take a ++ List.replicate (a - s.length) 0).length = a := by simp; omega
    unfold readS put
    rw [if_neg ht, List.append_assoc, List.append_assoc, ← List.append_assoc (s.take a), List.drop_append_of_le_length (by omega)]
    rw [List.drop_of_length_le (by omega), List.nil_append, List.take_left']
    rfl
theorem readS_cut (s : Str) (a n : Nat) : readS s a n = (s.drop (min a s.length)).take (min n (s.length - min a s.length)) := by
  unfold readS
  by_cases h : a ≤ s.length
  · rw [Nat.min_eq_left h]
    by_cases h2 : n ≤ s.length - a
    · rw [Nat.min_eq_left h2]
    · rw [Nat.min_eq_right (by omega), List.take_of_length_le (by simp; omega), List.take_of_length_le (by simp)]
  · rw [show min a s.length = s.length by omega, List.drop_of_length_le (show s.length ≤ a by omega), List.drop_of_length_le (Nat.le_refl _)]
    simp
theorem truncate_up {D : Dsk} {f n : Int} (hd : D.down = false) (ha : D.armed = 0) (h0 : 0 ≤ f) (h1 : f < 16) (hn : 0 ≤ n) (h2 : n ≤ (D.file f).1.length) : D.truncate f n = (D.settle f ((D.file f).1.take n.toNat), 0) := by
  unfold truncate
  rw [tock_zero ha]
  unfold truncate0
  rw [may_up hd h0 h1, if_neg (by simp), if_neg (by omega)]
theorem survives_nil (i : Nat) : survives [] i = false := by simp [survives]
theorem crashF_nil : ∀ (q : List (Int × Int)) (i : Nat) (g : Int → Str × Str), crashF [] i q g = g
  | [], _, _ => rfl
  | p :: q, i, g => by
    unfold crashF
    rw [survives_nil]
    simp [crashF_nil q]
theorem crash_up {D : Dsk} (keep : List Int) (hd : D.down = false) (f : Int) : ((D.crash keep).file f).1 = (crashF keep 0 D.queue D.file f).2 ∧ ((D.crash keep).file f).2 = (crashF keep 0 D.queue D.file f).2 := by
  unfold crash
  rw [hd]
  simp

/-! ### DiskSynced -/

/-- file f is x, durably, and nothing of it is pending -/
def Still (D : Dsk) (f : Int) (x : Str) : Prop := D.file f = (x, x) ∧ ∀ p ∈ D.queue, p.1 ≠ f

theorem crashF_other (keep : List Int) (f : Int) : ∀ (q : List (Int × Int)) (i : Nat) (g : Int → Str × Str), (∀ p ∈ q, p.1 ≠ f) → crashF keep i q g f = g f
  | [], _, _, _ => rfl
  | p :: q, i, g, h => by
    have hp := h p (by simp)
    have hq : ∀ r ∈ q, r.1 ≠ f := fun r hr => h r (by simp [hr])
    unfold crashF
    split
    · rw [crashF_other keep f q (i + 1) _ hq]
      unfold survive
      split
      · simp [setFile, Ne.symm hp]
      · rfl
    · exact crashF_other keep f q (i + 1) _ hq
theorem Still.crash {D : Dsk} {f : Int} {x : Str} (h : Still D f x) (keep : List Int) : Still (D.crash keep) f x := by
  unfold Dsk.crash
  split
  · exact h
  · refine ⟨?_, by simp⟩
    simp only
    rw [crashF_other keep f _ _ _ h.2, h.1]
theorem Still.tick {D : Dsk} {f : Int} {x : Str} (h : Still D f x) : Still D.tick f x := by
  unfold Dsk.tick
  split
  · exact h
  · exact h
theorem Still.tock {D : Dsk} {f : Int} {x : Str} (h : Still D f x) : Still D.tock f x := by
  unfold Dsk.tock
  split
  · exact h.tick.crash _
  · exact h.tick
theorem Still.lose {D : Dsk} {f : Int} {x : Str} (h : Still D f x) (n : Int) : Still (D.lose n) f x := h
theorem Still.settle {D : Dsk} {f g : Int} {x s : Str} (h : Still D f x) (hg : g ≠ f) : Still (D.settle g s) f x := by
  refine ⟨?_, fun p hp => h.2 p (List.mem_filter.1 hp).1⟩
  simp [Dsk.settle, setFile, Ne.symm hg, h.1]
theorem mem_push {q : List (Int × Int)} {p r : Int × Int} : r ∈ push q p ↔ r ∈ q ∨ r = p := by
  unfold push
  split
  · rename_i h
    constructor
    · exact .inl
    · rintro (h1 | rfl)
      · exact h1
      · exact h
  · simp
theorem mem_pushAll {f : Int} {r : Int × Int} : ∀ {ns : List Int} {q : List (Int × Int)}, r ∈ pushAll q f ns ↔ r ∈ q ∨ (r.1 = f ∧ r.2 ∈ ns)
  | [], q => by simp [pushAll]
  | n :: ns, q => by
    have : pushAll q f (n :: ns) = pushAll (push q (f, n)) f ns := rfl
    rw [this, mem_pushAll, mem_push]
    obtain ⟨a, b⟩ := r
    simp only [Prod.mk.injEq, List.mem_cons]
    constructor
    · rintro ((h | h) | h)
      · exact .inl h
      · exact .inr ⟨h.1, .inl h.2⟩
      · exact .inr ⟨h.1, .inr h.2⟩
    · rintro (h | ⟨h1, h2 | h2⟩)
      · exact .inl (.inl h)
      · exact .inl (.inr ⟨h1, h2⟩)
      · exact .inr ⟨h1, h2⟩
theorem Still.add {D : Dsk} {f g : Int} {x s : Str} {a : Nat} (h : Still D f x) (hg : g ≠ f) : Still (D.add g a s) f x := by
  unfold Dsk.add
  split
  · exact h
  · refine ⟨?_, fun p hp => ?_⟩
    · simp [setFile, Ne.symm hg, h.1]
    · rcases mem_pushAll.1 hp with h1 | h1
      · exact h.2 p h1
      · rw [h1.1]; exact hg
theorem Still.write0 {D : Dsk} {f g : Int} {x s : Str} {a : Int} (h : Still D f x) (hg : g ≠ f) : Still (D.write0 g a s).1 f x := by
  unfold Dsk.write0
  split
  · exact h
  split
  · exact h
  split
  · exact h
  · exact h.add hg
theorem Still.write {D : Dsk} {f g : Int} {x s : Str} {a : Int} (h : Still D f x) (hg : g ≠ f) : Still (D.write g a s).1 f x := by
  unfold Dsk.write
  split
  · exact (h.tick.write0 hg).crash _
  · exact h.tick.write0 hg
theorem Still.sync {D : Dsk} {f g : Int} {x : Str} (h : Still D f x) (hg : g ≠ f) : Still (D.sync g).1 f x := by
  unfold Dsk.sync Dsk.sync0
  split
  · exact h.tock
  split
  · exact h.tock
  · exact h.tock.settle hg
theorem Still.truncate {D : Dsk} {f g n : Int} {x : Str} (h : Still D f x) (hg : g ≠ f) : Still (D.truncate g n).1 f x := by
  unfold Dsk.truncate Dsk.truncate0
  split
  · exact h.tock
  split
  · exact h.tock
  · exact h.tock.settle hg
theorem Still.step {D : Dsk} {f : Int} {x : Str} (h : Still D f x) (a : DAct) (ha : (a.d % 8 < 4 ∧ a.f ≠ f) ∨ a.d % 8 = 4) : Still (D.step a).1 f x := by
  unfold Dsk.step
  rcases ha with ⟨h1, h2⟩ | h1
  · split
    · exact h.sync h2
    split
    · exact h.truncate h2
    rw [if_neg (by omega), if_neg (by omega), if_neg (by omega), if_neg (by omega)]
    exact h.write h2
  · rw [if_neg (by omega), if_neg (by omega), if_pos h1]
    exact h.lose _
/-- what the successful Sync of a file leaves -/
theorem sync_still {D : Dsk} {f : Int} (h : (D.sync f).2 = 0) : D.down = false ∧ 0 ≤ f ∧ f < 16 ∧ Still (D.sync f).1 f (D.file f).1 ∧ (D.sync f).1.down = false := by
  have hm : D.tock.may f = 0 := by
    by_cases hm : D.tock.may f = 0
    · exact hm
    · unfold Dsk.sync Dsk.sync0 at h
      rw [if_pos hm] at h
      exact h
  obtain ⟨m1, m2, m3⟩ := may_zero hm
  have he : D.ends = false := by
    cases he : D.ends with
    | false => rfl
    | true =>
      exfalso
      have ht : D.tock = D.tick.crash D.keep := by simp [Dsk.tock, he]
      rw [ht] at m1
      unfold Dsk.crash at m1
      split at m1
      · rename_i hd
        rw [hd] at m1
        cases m1
      · simp at m1
  have ht : D.tock = D.tick := by simp [Dsk.tock, he]
  rw [ht] at m1
  have hf : D.tick.file = D.file ∧ D.tick.down = D.down := by
    unfold Dsk.tick
    split
    · exact ⟨rfl, rfl⟩
    · exact ⟨rfl, rfl⟩
  refine ⟨by rw [← hf.2]; exact m1, m2, m3, ?_⟩
  unfold Dsk.sync Dsk.sync0 at h ⊢
  rw [if_neg (by rw [hm]; simp)] at h ⊢
  rw [ht] at h ⊢
  by_cases hl : 0 < D.tick.lost
  · rw [if_pos hl] at h
    simp at h
  · rw [if_neg hl]
    refine ⟨⟨?_, fun p hp => ?_⟩, m1⟩
    · simp [Dsk.settle, setFile, hf.1]
    · have := (List.mem_filter.1 hp).2
      simpa using this
end Dsk
end Go.Proofs.Ytddmgkppefhlbaa
