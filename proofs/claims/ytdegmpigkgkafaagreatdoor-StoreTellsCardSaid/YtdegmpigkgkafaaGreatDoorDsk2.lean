/-
  Plain lemmas on the disk's data: what keeps it in order.
-/
import Derived.Test.YtdegmpigkgkafaaGreatDoorDsk
namespace Go.Proofs.YtdegmpigkgkafaaGreatDoor
set_option linter.unusedVariables false
set_option linter.unusedSimpArgs false
set_option linter.unusedSectionVars false
section
variable {κ β : Type} [DecidableEq κ]
theorem assoc_aput (k : κ) (v : β) (c : Nat) : ∀ (l : List (κ × β × Nat)) (k' : κ), assoc k' (aput k v c l) = if k' = k then some v else assoc k' l
 | [], k' => by
  by_cases h : k' = k <;> simp [aput, assoc, h]
 | x :: l, k' => by
  unfold aput
  by_cases hx : k = x.1
  · rw [if_pos hx]
    by_cases h : k' = k
    · subst h; simp [assoc]
    · rw [if_neg h]
      unfold assoc
      rw [if_neg h, if_neg (by rw [← hx]; exact h)]
  · rw [if_neg hx]
    have ih := assoc_aput k v c l k'
    by_cases h : k' = x.1
    · have hne : ¬ k' = k := fun e => hx (e ▸ h)
      rw [if_neg hne]
      unfold assoc
      rw [if_pos h, if_pos h]
    · unfold assoc
      rw [if_neg h, ih, if_neg h]
theorem assoc_none (k : κ) : ∀ (l : List (κ × β × Nat)), assoc k l = none ↔ k ∉ l.map (·.1)
 | [] => by simp [assoc]
 | x :: l => by
  unfold assoc
  by_cases h : k = x.1
  · simp [h]
  · rw [if_neg h, assoc_none k l]
    simp [h]
theorem mem_aput (k : κ) (v : β) (c : Nat) : ∀ (l : List (κ × β × Nat)) (y : κ × β × Nat), y ∈ aput k v c l → y ∈ l ∨ (y.1 = k ∧ y.2.1 = v ∧ ((assoc k l = none ∧ y.2.2 = c) ∨ ∃ z ∈ l, z.1 = k ∧ z.2.2 = y.2.2))
 | [], y, h => by
  simp [aput] at h
  subst h
  exact .inr ⟨rfl, rfl, .inl ⟨rfl, rfl⟩⟩
 | x :: l, y, h => by
  unfold aput at h
  by_cases hx : k = x.1
  · rw [if_pos hx] at h
    rcases List.mem_cons.1 h with rfl | h
    · exact .inr ⟨rfl, rfl, .inr ⟨x, by simp, hx.symm, rfl⟩⟩
    · exact .inl (by simp [h])
  · rw [if_neg hx] at h
    rcases List.mem_cons.1 h with rfl | h
    · exact .inl (by simp)
    · rcases mem_aput k v c l y h with h1 | ⟨h1, h2, h3⟩
      · exact .inl (by simp [h1])
      · refine .inr ⟨h1, h2, ?_⟩
        rcases h3 with ⟨h3, h4⟩ | ⟨z, hz, h3⟩
        · exact .inl ⟨by unfold assoc; rw [if_neg hx, h3], h4⟩
        · exact .inr ⟨z, by simp [hz], h3⟩
theorem aput_keys (k : κ) (v : β) (c : Nat) : ∀ (l : List (κ × β × Nat)), (aput k v c l).map (·.1) = if assoc k l = none then l.map (·.1) ++ [k] else l.map (·.1)
 | [] => by simp [aput, assoc]
 | x :: l => by
  unfold aput assoc
  by_cases hx : k = x.1
  · simp [hx]
  · rw [if_neg hx, if_neg hx, List.map_cons, aput_keys k v c l]
    split <;> simp
theorem aput_born (k : κ) (v : β) (c : Nat) : ∀ (l : List (κ × β × Nat)), (aput k v c l).map (·.2.2) = if assoc k l = none then l.map (·.2.2) ++ [c] else l.map (·.2.2)
 | [] => by simp [aput, assoc]
 | x :: l => by
  unfold aput assoc
  by_cases hx : k = x.1
  · simp [hx]
  · rw [if_neg hx, if_neg hx, List.map_cons, aput_born k v c l]
    split <;> simp
end
namespace Dsk
theorem Ok.setFile {D : Dsk} (h : D.Ok) {f : Int} (h0 : 0 ≤ f) (h1 : f < 16) {x : Str × Str} (hx : x.1.length ≤ 16777216 ∧ x.2.length ≤ 16777216) : ({ D with file := Dsk.setFile D.file f x } : Dsk).Ok :=
 { h with
  lens := fun g => by
   simp only [Dsk.setFile]
   split
   · exact hx
   · exact h.lens g
  out := fun g hg => by
   simp only [Dsk.setFile]
   rw [if_neg (by omega)]
   exact h.out g hg }
theorem Ok.push {D : Dsk} (h : D.Ok) {p : Int × Int} (h0 : 0 ≤ p.1) (h1 : p.1 < 16) (h2 : 0 ≤ p.2) (h3 : p.2 ≤ 262144) : ({ D with queue := Dsk.push D.queue p } : Dsk).Ok :=
 { h with
  q := fun r hr => by
   simp only [Dsk.push] at hr
   split at hr
   · exact h.q r hr
   · rw [List.mem_append] at hr
     rcases hr with hr | hr
     · exact h.q r hr
     · simp at hr
       subst hr
       exact ⟨h0, h1, h2, h3⟩
  nodup := by
   simp only [Dsk.push]
   split
   · exact h.nodup
   · rename_i hn
     refine List.nodup_append.2 ⟨h.nodup, by simp, fun a ha b hb => ?_⟩
     simp at hb
     subst hb
     rintro rfl
     exact hn ha }
/-- after the first i sectors -/
def wrote (D : Dsk) (f : Int) (at_ : Nat) (s : Str) (i : Nat) : Dsk :=
 { D with file := Dsk.setFile D.file f (put (D.file f).1 at_ s, (D.file f).2), queue := pushAll D.queue f ((secs at_ s.length).take i) }
theorem length_secs (a n : Nat) : (secs a n).length = (a + n - 1) / 64 + 1 - a / 64 := by simp [secs]
theorem secs_get (a n i : Nat) (h : i < (secs a n).length) : (secs a n)[i] = ((a / 64 + i : Nat) : Int) := by simp [secs]
theorem wrote_zero (D : Dsk) (f : Int) (a : Nat) (s : Str) : D.wrote f a s 0 = { D with file := Dsk.setFile D.file f (put (D.file f).1 a s, (D.file f).2) } := by
 simp [wrote, pushAll]
theorem wrote_all (D : Dsk) (f : Int) (a : Nat) (s : Str) (hs : s ≠ []) (i : Nat) (hi : (secs a s.length).length ≤ i) : D.wrote f a s i = D.add f a s := by
 simp [wrote, add, hs, List.take_of_length_le hi]
theorem wrote_succ (D : Dsk) (f : Int) (a : Nat) (s : Str) (i : Nat) (hi : i < (secs a s.length).length) : D.wrote f a s (i + 1) = { D.wrote f a s i with queue := push (D.wrote f a s i).queue (f, ((a / 64 + i : Nat) : Int)) } := by
 simp only [wrote]
 congr 1
 rw [List.take_succ_eq_append_getElem hi]
 simp only [pushAll, List.foldl_append, List.foldl_cons, List.foldl_nil]
 rw [secs_get]
theorem Ok.wrote {D : Dsk} (h : D.Ok) {f : Int} (h0 : 0 ≤ f) (h1 : f < 16) {a : Nat} {s : Str} (ha : a + s.length ≤ 16777216) : ∀ i, i ≤ (secs a s.length).length → (D.wrote f a s i).Ok
 | 0, _ => by
  rw [wrote_zero]
  exact h.setFile h0 h1 ⟨length_put_le _ _ _ _ (h.lens f).1 (fun _ => ha), (h.lens f).2⟩
 | i + 1, hi => by
  have ih := Ok.wrote h h0 h1 ha i (by omega)
  rw [wrote_succ D f a s i (by omega)]
  rw [length_secs] at hi
  exact ih.push h0 h1 (by simp only; omega) (by simp only; omega)
theorem Ok.add {D : Dsk} (h : D.Ok) {f : Int} (h0 : 0 ≤ f) (h1 : f < 16) {a : Nat} {s : Str} (ha : a + s.length ≤ 16777216) : (D.add f a s).Ok := by
 by_cases hs : s = []
 · simpa [Dsk.add, hs] using h
 · rw [← wrote_all D f a s hs _ (Nat.le_refl _)]
   exact h.wrote h0 h1 ha _ (Nat.le_refl _)
theorem Ok.settle {D : Dsk} (h : D.Ok) {f : Int} (h0 : 0 ≤ f) (h1 : f < 16) {s : Str} (hs : s.length ≤ 16777216) : (D.settle f s).Ok :=
 { h.setFile h0 h1 (x := (s, s)) ⟨hs, hs⟩ with
  q := fun r hr => h.q r (List.mem_filter.1 hr).1
  nodup := h.nodup.filter _ }
theorem survive_ok {g : Int → Str × Str} {p : Int × Int} (hg : ∀ f, (g f).1.length ≤ 16777216 ∧ (g f).2.length ≤ 16777216) (h1 : ∀ f, f < 0 ∨ 16 ≤ f → g f = ([], [])) :
 (∀ f, ((survive g p) f).1.length ≤ 16777216 ∧ ((survive g p) f).2.length ≤ 16777216) ∧ ∀ f, f < 0 ∨ 16 ≤ f → survive g p f = ([], []) := by
 unfold survive
 split
 · rename_i hlt
   refine ⟨fun f => ?_, fun f hf => ?_⟩
   · simp only [Dsk.setFile]
     split
     · have := hg p.1
       refine ⟨this.1, length_put_le _ _ _ _ this.2 fun _ => ?_⟩
       simp
       omega
     · exact hg f
   · simp only [Dsk.setFile]
     split
     · rename_i e
       subst e
       rw [h1 p.1 hf] at hlt
       simp at hlt
     · exact h1 f hf
 · exact ⟨hg, h1⟩
theorem crashF_ok (keep : List Int) : ∀ (q : List (Int × Int)) (i : Nat) (g : Int → Str × Str), (∀ f, (g f).1.length ≤ 16777216 ∧ (g f).2.length ≤ 16777216) → (∀ f, f < 0 ∨ 16 ≤ f → g f = ([], [])) →
 (∀ f, ((crashF keep i q g) f).1.length ≤ 16777216 ∧ ((crashF keep i q g) f).2.length ≤ 16777216) ∧ ∀ f, f < 0 ∨ 16 ≤ f → crashF keep i q g f = ([], [])
 | [], _, _, hg, h1 => ⟨hg, h1⟩
 | p :: q, i, g, hg, h1 => by
  unfold crashF
  split
  · exact crashF_ok keep q (i + 1) _ (survive_ok hg h1).1 (survive_ok hg h1).2
  · exact crashF_ok keep q (i + 1) _ hg h1
theorem Ok.crash {D : Dsk} (h : D.Ok) (keep : List Int) : (D.crash keep).Ok := by
 unfold Dsk.crash
 split
 · exact h
 · have := crashF_ok keep D.queue 0 D.file h.lens h.out
   exact { h with
    lens := fun f => ⟨(this.1 f).2, (this.1 f).2⟩
    out := fun f hf => by simp [this.2 f hf]
    q := by simp
    nodup := by simp
    armed := by simp }
theorem may_zero {D : Dsk} {f : Int} (h : D.may f = 0) : D.down = false ∧ 0 ≤ f ∧ f < 16 := by
 unfold may at h
 cases hd : D.down with
 | true => rw [hd] at h; simp at h
 | false =>
  rw [hd] at h
  by_cases hc : f < 0 ∨ 16 ≤ f
  · simp [hc] at h
  · exact ⟨rfl, by omega, by omega⟩
theorem Ok.write0 {D : Dsk} (h : D.Ok) (f at_ : Int) (s : Str) : (D.write0 f at_ s).1.Ok := by
 unfold Dsk.write0
 split
 · exact h
 · rename_i hm
   split
   · exact h
   · split
     · exact h
     · rename_i ha hf
       simp only [Classical.not_not] at hf hm
       unfold fits at hf
       have := may_zero hm
       exact h.add (by omega) (by omega) (by omega)
theorem Ok.tock {D : Dsk} (h : D.Ok) : D.tock.Ok := by
 unfold Dsk.tock
 split
 · exact h.tick.crash _
 · exact h.tick
theorem Ok.write {D : Dsk} (h : D.Ok) (f at_ : Int) (s : Str) : (D.write f at_ s).1.Ok := by
 unfold Dsk.write
 split
 · exact (h.tick.write0 f at_ s).crash _
 · exact h.tick.write0 f at_ s
theorem Ok.sync0 {D : Dsk} (h : D.Ok) (f : Int) : (D.sync0 f).1.Ok := by
 unfold Dsk.sync0
 split
 · exact h
 · split
   · rename_i hl
     exact { h with lost := by have := h.lost; simp only; omega }
   · rename_i hm _
     simp only [Classical.not_not] at hm
     have := may_zero hm
     exact h.settle this.2.1 this.2.2 (h.lens f).1
theorem Ok.truncate0 {D : Dsk} (h : D.Ok) (f n : Int) : (D.truncate0 f n).1.Ok := by
 unfold Dsk.truncate0
 split
 · exact h
 · split
   · exact h
   · rename_i hm _
     simp only [Classical.not_not] at hm
     have := may_zero hm
     refine h.settle this.2.1 this.2.2 ?_
     have := (h.lens f).1
     simp
     omega
end Dsk
end Go.Proofs.YtdegmpigkgkafaaGreatDoor
