/-
  The plain laws of DiskArms: a disk on which a crash is scheduled, beside one on which none is. No condition: definitions and plain lemmas.
-/
import Derived.Test.YtddmgkppefhlbaaActs
namespace Go.Proofs.Ytddmgkppefhlbaa
set_option linter.unusedVariables false
set_option linter.unusedSimpArgs false
set_option linter.unusedSectionVars false
namespace Dsk
def upd (C : Dsk) (x : Int) (y : List Int) : Dsk := { C with armed := x, keep := y }
theorem upd_may (C : Dsk) (x : Int) (y : List Int) (f : Int) : (C.upd x y).may f = C.may f := rfl
theorem upd_add (C : Dsk) (x : Int) (y : List Int) (f : Int) (a : Nat) (s : Str) : (C.upd x y).add f a s = (C.add f a s).upd x y := by
  unfold Dsk.add
  split <;> rfl
theorem upd_write0 (C : Dsk) (x : Int) (y : List Int) (f a : Int) (s : Str) : (C.upd x y).write0 f a s = ((C.write0 f a s).1.upd x y, (C.write0 f a s).2) := by
  unfold Dsk.write0
  rw [upd_may]
  split
  · rfl
  split
  · rfl
  split
  · rfl
  · rw [upd_add]
theorem upd_sync0 (C : Dsk) (x : Int) (y : List Int) (f : Int) : (C.upd x y).sync0 f = ((C.sync0 f).1.upd x y, (C.sync0 f).2) := by
  unfold Dsk.sync0
  rw [upd_may]
  split
  · rfl
  split
  · rename_i h
    rw [if_pos (show 0 < C.lost from h)]
    rfl
  · rename_i h
    rw [if_neg (show ¬ 0 < C.lost from h)]
    rfl
theorem upd_truncate0 (C : Dsk) (x : Int) (y : List Int) (f n : Int) : (C.upd x y).truncate0 f n = ((C.truncate0 f n).1.upd x y, (C.truncate0 f n).2) := by
  unfold Dsk.truncate0
  rw [upd_may]
  split
  · rfl
  split
  · rename_i h
    rw [if_pos (show n < 0 ∨ ((C.file f).1.length : Int) < n from h)]
  · rename_i h
    rw [if_neg (show ¬ (n < 0 ∨ ((C.file f).1.length : Int) < n) from h)]
    rfl
theorem write0_keeps (C : Dsk) (f a : Int) (s : Str) : (C.write0 f a s).1.down = C.down ∧ (C.write0 f a s).1.armed = C.armed := by
  unfold Dsk.write0
  split
  · exact ⟨rfl, rfl⟩
  split
  · exact ⟨rfl, rfl⟩
  split
  · exact ⟨rfl, rfl⟩
  · exact ⟨(add_same C f _ s).1, (add_same C f _ s).2.1⟩
theorem sync0_keeps (C : Dsk) (f : Int) : (C.sync0 f).1.down = C.down ∧ (C.sync0 f).1.armed = C.armed := by
  unfold Dsk.sync0
  split
  · exact ⟨rfl, rfl⟩
  split
  · exact ⟨rfl, rfl⟩
  · exact ⟨rfl, rfl⟩
theorem truncate0_keeps (C : Dsk) (f n : Int) : (C.truncate0 f n).1.down = C.down ∧ (C.truncate0 f n).1.armed = C.armed := by
  unfold Dsk.truncate0
  split
  · exact ⟨rfl, rfl⟩
  split
  · exact ⟨rfl, rfl⟩
  · exact ⟨rfl, rfl⟩

/-- before the scheduled crash has happened -/
structure Armed (D C : Dsk) (m : Int) (keep : List Int) : Prop where
  eq : D = C.upd m keep
  up : C.down = false
  ca : C.armed = 0
  pos : 0 < m
/-- after it -/
structure Fallen (D C : Dsk) : Prop where
  file : D.file = C.file
  down : D.down = true
  cdown : C.down = true

theorem Armed.init (n : Int) (keep : List Int) (hn : 0 < n) : Armed (Dsk.init.arm n keep) Dsk.init n keep :=
  ⟨by simp [Dsk.arm, upd]; omega, rfl, rfl, hn⟩

section
variable {D C : Dsk} {m : Int} {keep : List Int}
theorem Armed.down (h : Armed D C m keep) : D.down = false := by rw [h.eq]; exact h.up
theorem Armed.ends (h : Armed D C m keep) : D.ends = decide (m = 1) := by
  have h1 := h.pos
  have h2 := h.up
  rw [h.eq]
  simp only [Dsk.ends, upd, h2, Bool.false_or]
  by_cases e : m = 1
  · subst e; rfl
  · have e1 : (m == 0) = false := by simp; omega
    have e2 : (m - 1 == 0) = false := by simp; omega
    rw [e1, e2]
    simp [e]
theorem Armed.tick (h : Armed D C m keep) : D.tick = C.upd (m - 1) keep := by
  have h1 := h.pos
  have h2 := h.up
  rw [h.eq]
  have e1 : (m == 0) = false := by simp; omega
  simp only [Dsk.tick, upd, h2, e1]
  rfl
theorem Armed.lose (h : Armed D C m keep) (a : DAct) (ha : a.d % 8 = 4) : Armed (D.step a).1 (C.step a).1 m keep ∧ (D.step a).2 = (C.step a).2 := by
  have e : ∀ E : Dsk, E.step a = (E.lose (a.n % 4), 0) := fun E => by simp [Dsk.step, ha]
  rw [e, e]
  exact ⟨⟨by rw [h.eq]; rfl, h.up, h.ca, h.pos⟩, rfl⟩
theorem Armed.on (h : Armed D C m keep) (a : DAct) (ha : a.d % 8 < 4) (hm : 1 < m) : Armed (D.step a).1 (C.step a).1 (m - 1) keep ∧ (D.step a).2 = (C.step a).2 := by
  have he : D.ends = false := by rw [h.ends]; simp; omega
  have ht := h.tick
  have hto : D.tock = C.upd (m - 1) keep := by simp [Dsk.tock, he, ht]
  have hc := tock_zero h.ca
  unfold Dsk.step
  split
  · simp only [Dsk.sync, hto, hc, upd_sync0]
    have k := sync0_keeps C a.f
    exact ⟨⟨rfl, k.1.trans h.up, k.2.trans h.ca, by omega⟩, trivial⟩
  split
  · simp only [Dsk.truncate, hto, hc, upd_truncate0]
    have k := truncate0_keeps C a.f a.n
    exact ⟨⟨rfl, k.1.trans h.up, k.2.trans h.ca, by omega⟩, trivial⟩
  rw [if_neg (by omega), if_neg (by omega), if_neg (by omega), if_neg (by omega)]
  rw [if_neg (by omega), if_neg (by omega), if_neg (by omega), if_neg (by omega)]
  have e1 : D.write a.f a.n a.s = (C.upd (m - 1) keep).write0 a.f a.n a.s := by simp [Dsk.write, he, ht]
  have e2 : C.write a.f a.n a.s = C.write0 a.f a.n a.s := by simp [Dsk.write, ends_zero h.ca, tick_zero h.ca]
  rw [e1, e2, upd_write0]
  have k := write0_keeps C a.f a.n a.s
  exact ⟨⟨rfl, k.1.trans h.up, k.2.trans h.ca, by omega⟩, rfl⟩
theorem crash_fallen {E : Dsk} (x : Int) (hE : E.down = false) : Fallen ((E.upd x keep).crash keep) (E.crash keep) := by
  have h2 : (E.upd x keep).down = false := hE
  unfold Dsk.crash
  rw [hE, h2, if_neg (by simp), if_neg (by simp)]
  exact ⟨rfl, rfl, rfl⟩
theorem may_down {E : Dsk} (h : E.down = true) (f : Int) : E.may f = 8 := by simp [Dsk.may, h]
theorem sync0_down {E : Dsk} (h : E.down = true) (f : Int) : E.sync0 f = (E, 8) := by simp [Dsk.sync0, may_down h]
theorem truncate0_down {E : Dsk} (h : E.down = true) (f n : Int) : E.truncate0 f n = (E, 8) := by simp [Dsk.truncate0, may_down h]
theorem write0_down {E : Dsk} (h : E.down = true) (f a : Int) (s : Str) : E.write0 f a s = (E, 8) := by simp [Dsk.write0, may_down h]
/-- the call in which it happens -/
theorem Armed.falls (h : Armed D C 1 keep) (a : DAct) (ha : a.d % 8 < 4) : (D.step a).2 = 8 ∧ (a.d % 8 < 2 → Fallen (D.step a).1 ((C.step a).1.crash keep)) ∧ (¬ a.d % 8 < 2 → Fallen (D.step a).1 (C.crash keep)) := by
  have he : D.ends = true := by rw [h.ends]; rfl
  have ht := h.tick
  have hk : D.keep = keep := by rw [h.eq]; rfl
  have hto : D.tock = (C.upd 0 keep).crash keep := by simp [Dsk.tock, he, ht, hk]
  have hf := crash_fallen (keep := keep) 0 h.up
  unfold Dsk.step
  split
  · simp only [Dsk.sync, hto, sync0_down hf.down]
    exact ⟨trivial, fun _ => by omega, fun _ => hf⟩
  split
  · simp only [Dsk.truncate, hto, truncate0_down hf.down]
    exact ⟨trivial, fun _ => by omega, fun _ => hf⟩
  rw [if_neg (by omega), if_neg (by omega), if_neg (by omega), if_neg (by omega)]
  rw [if_neg (by omega), if_neg (by omega), if_neg (by omega), if_neg (by omega)]
  have e2 : C.write a.f a.n a.s = C.write0 a.f a.n a.s := by simp [Dsk.write, ends_zero h.ca, tick_zero h.ca]
  have e1 : D.write a.f a.n a.s = (((C.write0 a.f a.n a.s).1.upd 0 keep).crash keep, 8) := by
    simp only [Dsk.write, he, if_true, ht]
    rw [show (1 : Int) - 1 = 0 from rfl, upd_write0]
    rfl
  rw [e1, e2]
  refine ⟨rfl, fun _ => crash_fallen 0 ((write0_keeps C a.f a.n a.s).1.trans h.up), fun _ => by omega⟩
theorem Fallen.start (h : Fallen D C) : D.start.file = C.start.file ∧ D.start.down = C.start.down := ⟨h.file, rfl⟩
theorem Fallen.lose (h : Fallen D C) (a : DAct) (ha : a.d % 8 = 4) : Fallen (D.step a).1 C := by
  have e : D.step a = (D.lose (a.n % 4), 0) := by simp [Dsk.step, ha]
  rw [e]
  exact ⟨h.file, h.down, h.cdown⟩
theorem Fallen.on (h : Fallen D C) (a : DAct) (ha : a.d % 8 < 4) : (D.step a).2 = 8 ∧ Fallen (D.step a).1 C := by
  have hd := h.down
  have ht : D.tick = D := by simp [Dsk.tick, hd]
  have he : D.ends = false := by simp [Dsk.ends, hd]
  have hto : D.tock = D := by simp [Dsk.tock, he, ht]
  unfold Dsk.step
  split
  · simp only [Dsk.sync, hto, sync0_down hd]
    exact ⟨trivial, h⟩
  split
  · simp only [Dsk.truncate, hto, truncate0_down hd]
    exact ⟨trivial, h⟩
  rw [if_neg (by omega), if_neg (by omega), if_neg (by omega), if_neg (by omega)]
  have e1 : D.write a.f a.n a.s = (D, 8) := by simp [Dsk.write, he, ht, write0_down hd]
  rw [e1]
  exact ⟨rfl, h⟩
end

/-- what 'same' looks at -/
def Like (D C : Dsk) : Prop := D.down = C.down ∧ D.file = C.file
theorem Armed.like {D C : Dsk} {m : Int} {keep : List Int} (h : Armed D C m keep) : Like D C := ⟨by rw [h.eq]; rfl, by rw [h.eq]; rfl⟩
theorem Fallen.like {D C : Dsk} (h : Fallen D C) : Like D C := ⟨h.down.trans h.cdown.symm, h.file⟩
theorem Like.start {D C : Dsk} (h : Like D C) : Like D.start C.start := ⟨rfl, h.2⟩
theorem Like.read {D C : Dsk} (h : Like D C) (f a n : Int) : D.read f a n = C.read f a n := by
  have hm : D.may f = C.may f := by simp [Dsk.may, h.1]
  simp [Dsk.read, hm, h.2]
theorem Like.size {D C : Dsk} (h : Like D C) (f : Int) : D.size f = C.size f := by simp [Dsk.size, h.2]
end Dsk
end Go.Proofs.Ytddmgkppefhlbaa
