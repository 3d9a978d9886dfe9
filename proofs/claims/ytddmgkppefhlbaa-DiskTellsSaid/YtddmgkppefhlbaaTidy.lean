/-
  The plain laws of DiskSurvives: what is pending tells where a file and its durable part differ. No condition: definitions and plain lemmas.
-/
import Derived.Test.YtddmgkppefhlbaaActs
namespace Go.Proofs.Ytddmgkppefhlbaa
set_option linter.unusedVariables false
set_option linter.unusedSimpArgs false
set_option linter.unusedSectionVars false

theorem getD_put (s : Str) (a : Nat) (t : Str) (i : Nat) : (put s a t).getD i 0 = if a ≤ i ∧ i < a + t.length then t.getD (i - a) 0 else s.getD i 0 := by
  by_cases ht : t = []
  · subst ht
    rw [if_neg (by simp only [List.length_nil]; omega)]
    simp [put]
  · have h1 : (s.take a ++ List.replicate (a - s.length) 0).length = a := by simp; omega
    unfold put
    rw [if_neg ht]
    simp only [List.getD_eq_getElem?_getD]
    by_cases h : i < a
    · rw [if_neg (by omega), List.append_assoc, List.getElem?_append_left (by omega)]
      by_cases h2 : i < s.length
      · rw [List.getElem?_append_left (by simp; omega), List.getElem?_take, if_pos h]
      · rw [List.getElem?_append_right (by simp; omega), List.getElem?_replicate]
        rw [List.getElem?_eq_none (l := s) (by omega)]
        split <;> rfl
    · by_cases h2 : i < a + t.length
      · rw [if_pos ⟨by omega, h2⟩, List.getElem?_append_left (by simp at h1 ⊢; omega), List.getElem?_append_right (by omega), h1]
      · rw [if_neg (by omega), List.getElem?_append_right (by simp at h1 ⊢; omega), List.getElem?_drop]
        congr 2
        simp at h1 ⊢
        omega

namespace Dsk
structure Tidy (D : Dsk) : Prop where
  len : ∀ f, (D.file f).2.length ≤ (D.file f).1.length
  clean : ∀ f (i : Nat), (f, ((i / 64 : Nat) : Int)) ∉ D.queue → (D.file f).1.getD i 0 = (D.file f).2.getD i 0
  last : ∀ f, (D.file f).2.length < (D.file f).1.length → (f, ((((D.file f).1.length - 1) / 64 : Nat) : Int)) ∈ D.queue

theorem Tidy.same {D E : Dsk} (h : D.Tidy) (h1 : E.file = D.file) (h2 : E.queue = D.queue) : E.Tidy := by
  refine ⟨?_, ?_, ?_⟩
  · rw [h1]; exact h.len
  · rw [h1, h2]; exact h.clean
  · rw [h1, h2]; exact h.last
theorem Tidy.init : Dsk.init.Tidy := ⟨fun _ => by simp [Dsk.init], fun _ _ _ => rfl, fun _ h => by simp [Dsk.init] at h⟩
theorem Tidy.crash {D : Dsk} (h : D.Tidy) (keep : List Int) : (D.crash keep).Tidy := by
  unfold Dsk.crash
  split
  · exact h
  · exact ⟨fun _ => Nat.le_refl _, fun _ _ _ => rfl, fun _ h => by simp at h⟩
theorem Tidy.tick {D : Dsk} (h : D.Tidy) : D.tick.Tidy := by
  unfold Dsk.tick
  split
  · exact h
  · exact h.same rfl rfl
theorem Tidy.tock {D : Dsk} (h : D.Tidy) : D.tock.Tidy := by
  unfold Dsk.tock
  split
  · exact h.tick.crash _
  · exact h.tick
theorem Tidy.settle {D : Dsk} (h : D.Tidy) (f : Int) (s : Str) : (D.settle f s).Tidy := by
  have hq : ∀ g n, g ≠ f → ((g, n) ∈ (D.settle f s).queue ↔ (g, n) ∈ D.queue) := fun g n hg => by
    simp [Dsk.settle, List.mem_filter, hg]
  refine ⟨fun g => ?_, fun g i hi => ?_, fun g hg => ?_⟩
  · by_cases e : g = f
    · simp [Dsk.settle, setFile, e]
    · simpa [Dsk.settle, setFile, e] using h.len g
  · by_cases e : g = f
    · simp [Dsk.settle, setFile, e]
    · have := h.clean g i (fun hc => hi ((hq g _ e).2 hc))
      simpa [Dsk.settle, setFile, e] using this
  · by_cases e : g = f
    · simp [Dsk.settle, setFile, e] at hg
    · have he : (D.settle f s).file g = D.file g := by simp [Dsk.settle, setFile, e]
      rw [he] at hg ⊢
      exact (hq g _ e).2 (h.last g hg)
theorem mem_secs (a n : Nat) (k : Int) : k ∈ secs a n ↔ ∃ j : Nat, k = (j : Int) ∧ a / 64 ≤ j ∧ j ≤ (a + n - 1) / 64 := by
  unfold secs
  rw [List.mem_map]
  constructor
  · rintro ⟨i, hi, rfl⟩
    rw [List.mem_range] at hi
    exact ⟨a / 64 + i, rfl, by omega, by omega⟩
  · rintro ⟨j, rfl, h1, h2⟩
    exact ⟨j - a / 64, List.mem_range.2 (by omega), by congr 1; omega⟩
theorem Tidy.add {D : Dsk} (h : D.Tidy) (f : Int) (a : Nat) (s : Str) : (D.add f a s).Tidy := by
  by_cases hs : s = []
  · unfold Dsk.add
    rw [if_pos hs]
    exact h
  · have hsl : 0 < s.length := List.length_pos_iff.2 hs
    have hqe : (D.add f a s).queue = pushAll D.queue f (secs a s.length) := by simp [Dsk.add, hs]
    have hof : ∀ g, g ≠ f → (D.add f a s).file g = D.file g := fun g e => by simp [Dsk.add, hs, setFile, e]
    have hff := add_file D f a s
    refine ⟨fun g => ?_, fun g i hi => ?_, fun g hg => ?_⟩
    · by_cases e : g = f
      · subst e
        rw [hff]
        simp only
        rw [length_put _ _ _ hs]
        have := h.len g
        omega
      · rw [hof g e]; exact h.len g
    · rw [hqe, mem_pushAll] at hi
      by_cases e : g = f
      · subst e
        rw [hff]
        simp only
        have hn : ¬ (a ≤ i ∧ i < a + s.length) := fun hc => hi (.inr ⟨rfl, (mem_secs _ _ _).2 ⟨i / 64, rfl, by omega, by omega⟩⟩)
        rw [getD_put, if_neg hn]
        exact h.clean g i (fun hc => hi (.inl hc))
      · rw [hof g e]
        exact h.clean g i (fun hc => hi (.inl hc))
    · rw [hqe, mem_pushAll]
      by_cases e : g = f
      · subst e
        rw [hff] at hg ⊢
        simp only at hg ⊢
        rw [length_put _ _ _ hs] at hg ⊢
        by_cases hl : (D.file g).1.length ≤ a + s.length
        · refine .inr ⟨trivial, (mem_secs _ _ _).2 ⟨_, rfl, ?_, ?_⟩⟩
          · omega
          · omega
        · refine .inl ?_
          have := h.last g (by omega)
          rwa [Nat.max_eq_left (by omega)]
      · rw [hof g e] at hg ⊢
        exact .inl (h.last g hg)
theorem Tidy.write0 {D : Dsk} (h : D.Tidy) (f a : Int) (s : Str) : (D.write0 f a s).1.Tidy := by
  unfold Dsk.write0
  split
  · exact h
  split
  · exact h
  split
  · exact h
  · exact h.add _ _ _
theorem Tidy.step {D : Dsk} (h : D.Tidy) (a : DAct) : (D.step a).1.Tidy := by
  unfold Dsk.step
  split
  · unfold Dsk.sync Dsk.sync0
    split
    · exact h.tock
    split
    · exact h.tock.same rfl rfl
    · exact h.tock.settle _ _
  split
  · unfold Dsk.truncate Dsk.truncate0
    split
    · exact h.tock
    split
    · exact h.tock
    · exact h.tock.settle _ _
  split
  · exact h.same rfl rfl
  split
  · exact h.same rfl rfl
  split
  · exact h.crash _
  split
  · exact h.same rfl rfl
  · unfold Dsk.write
    split
    · exact (h.tick.write0 _ _ _).crash _
    · exact h.tick.write0 _ _ _
theorem Tidy.steps (l : List DAct) : ∀ {D : Dsk}, D.Tidy → (D.steps l).Tidy := by
  induction l with
  | nil => intro D h; exact h
  | cons a l ih => intro D h; exact ih (h.step a)

/-- what a crash leaves of one file: of some of the pending sectors all, of the others nothing -/
structure Torn (now last some_ : Str) (K : Int → Prop) : Prop where
  byte : ∀ j : Nat, (K ((j / 64 : Nat) : Int) → some_.getD j 0 = now.getD j 0) ∧ (¬ K ((j / 64 : Nat) : Int) → some_.getD j 0 = last.getD j 0)
  lo : last.length ≤ some_.length
  hi : some_.length ≤ now.length
  sec : ∀ n : Nat, K (n : Int) → 64 * n < now.length → min (64 * n + 64) now.length ≤ some_.length

theorem crashF_torn (keep : List Int) (f : Int) : ∀ (q : List (Int × Int)) (i : Nat) (g : Int → Str × Str), (∀ p ∈ q, 0 ≤ p.2) → (g f).2.length ≤ (g f).1.length →
    ∃ K : Int → Prop, (∀ n, K n → (f, n) ∈ q) ∧ (keep = [1] → ∀ n, (f, n) ∈ q → K n) ∧ Torn (g f).1 (g f).2 (crashF keep i q g f).2 K
  | [], i, g, _, hl => ⟨fun _ => False, fun _ h => h.elim, fun _ n h => by simp at h, ⟨fun j => ⟨fun h => h.elim, fun _ => rfl⟩, Nat.le_refl _, hl, fun _ h => h.elim⟩⟩
  | p :: q, i, g, hq, hl => by
    have hq' : ∀ r ∈ q, 0 ≤ r.2 := fun r hr => hq r (by simp [hr])
    by_cases hk : survives keep i = true ∧ p.1 = f
    · obtain ⟨hk, hp⟩ := hk
      have e0 : crashF keep i (p :: q) g = crashF keep (i + 1) q (survive g p) := by simp [crashF, hk]
      rw [e0]
      obtain ⟨n0, hn0⟩ : ∃ n0 : Nat, p.2 = (n0 : Int) := ⟨p.2.toNat, by have := hq p (by simp); omega⟩
      have hpe : p = (f, (n0 : Int)) := by rw [← hp, ← hn0]
      subst hpe
      by_cases hlt : 64 * n0 < (g f).1.length
      · have hsv : survive g (f, (n0 : Int)) f = ((g f).1, put (g f).2 (64 * n0) (((g f).1.drop (64 * n0)).take 64)) := by
          unfold survive
          simp only
          rw [show (((n0 : Int) * 64).toNat) = 64 * n0 by omega, if_pos hlt]
          simp [setFile]
        have htl : (((g f).1.drop (64 * n0)).take 64).length = min 64 ((g f).1.length - 64 * n0) := by simp
        have htn : ((g f).1.drop (64 * n0)).take 64 ≠ [] := by
          intro e
          rw [e] at htl
          simp at htl
          omega
        have hpl := length_put (g f).2 (64 * n0) _ htn
        rw [htl] at hpl
        obtain ⟨K, k1, k2, k3⟩ := crashF_torn keep f q (i + 1) (survive g (f, (n0 : Int))) hq' (by rw [hsv]; simp only; rw [hpl]; omega)
        rw [hsv] at k3
        simp only at k3
        refine ⟨fun n => K n ∨ n = (n0 : Int), fun n hn => ?_, fun hk1 n hn => ?_, ?_⟩
        · rcases hn with hn | rfl
          · exact List.mem_cons_of_mem _ (k1 n hn)
          · exact List.mem_cons_self
        · rcases List.mem_cons.1 hn with e | hn
          · exact .inr (by injection e)
          · exact .inl (k2 hk1 n hn)
        · have hbyte : ∀ j : Nat, j / 64 = n0 → (put (g f).2 (64 * n0) (((g f).1.drop (64 * n0)).take 64)).getD j 0 = (g f).1.getD j 0 := by
            intro j hj
            rw [getD_put, htl]
            split
            · rename_i hc
              simp only [List.getD_eq_getElem?_getD]
              rw [List.getElem?_take, if_pos (by omega), List.getElem?_drop]
              congr 2
              omega
            · rename_i hc
              simp only [List.getD_eq_getElem?_getD]
              rw [List.getElem?_eq_none (l := (g f).1) (by omega), List.getElem?_eq_none (l := (g f).2) (by omega)]
          refine ⟨fun j => ⟨fun hj => ?_, fun hj => ?_⟩, by have := k3.lo; omega, k3.hi, fun n hn hn2 => ?_⟩
          · by_cases hKj : K ((j / 64 : Nat) : Int)
            · exact (k3.byte j).1 hKj
            · have hj' : j / 64 = n0 := by
                rcases hj with hj | hj
                · exact absurd hj hKj
                · omega
              rw [(k3.byte j).2 hKj]
              exact hbyte j hj'
          · have hKj : ¬ K ((j / 64 : Nat) : Int) := fun hc => hj (.inl hc)
            have hj' : j / 64 ≠ n0 := fun hc => hj (.inr (by omega))
            rw [(k3.byte j).2 hKj, getD_put, if_neg (by rw [htl]; omega)]
          · rcases hn with hn | hn
            · exact k3.sec n hn hn2
            · have : n = n0 := by omega
              subst this
              have := k3.lo
              omega
      · have hsv : survive g (f, (n0 : Int)) = g := by
          unfold survive
          simp only
          rw [show (((n0 : Int) * 64).toNat) = 64 * n0 by omega, if_neg hlt]
        rw [hsv]
        obtain ⟨K, k1, k2, k3⟩ := crashF_torn keep f q (i + 1) g hq' hl
        refine ⟨fun n => K n ∨ n = (n0 : Int), fun n hn => ?_, fun hk1 n hn => ?_, ?_⟩
        · rcases hn with hn | rfl
          · exact List.mem_cons_of_mem _ (k1 n hn)
          · exact List.mem_cons_self
        · rcases List.mem_cons.1 hn with e | hn
          · exact .inr (by injection e)
          · exact .inl (k2 hk1 n hn)
        · refine ⟨fun j => ⟨fun hj => ?_, fun hj => ?_⟩, k3.lo, k3.hi, fun n hn hn2 => ?_⟩
          · by_cases hKj : K ((j / 64 : Nat) : Int)
            · exact (k3.byte j).1 hKj
            · have hj' : j / 64 = n0 := by
                rcases hj with hj | hj
                · exact absurd hj hKj
                · omega
              rw [(k3.byte j).2 hKj]
              simp only [List.getD_eq_getElem?_getD]
              rw [List.getElem?_eq_none (l := (g f).1) (by omega), List.getElem?_eq_none (l := (g f).2) (by omega)]
          · exact (k3.byte j).2 fun hc => hj (.inl hc)
          · rcases hn with hn | hn
            · exact k3.sec n hn hn2
            · omega
    · have hg : (if survives keep i then survive g p else g) f = g f := by
        split
        · rename_i hs
          have hp : p.1 ≠ f := fun e => hk ⟨hs, e⟩
          unfold survive
          split
          · simp [setFile, Ne.symm hp]
          · rfl
        · rfl
      have e0 : crashF keep i (p :: q) g = crashF keep (i + 1) q (if survives keep i then survive g p else g) := rfl
      rw [e0]
      obtain ⟨K, k1, k2, k3⟩ := crashF_torn keep f q (i + 1) (if survives keep i then survive g p else g) hq' (by rw [hg]; exact hl)
      rw [hg] at k3
      refine ⟨K, fun n hn => List.mem_cons_of_mem _ (k1 n hn), fun hk1 n hn => ?_, k3⟩
      rcases List.mem_cons.1 hn with e | hn
      · exfalso
        apply hk
        subst hk1
        refine ⟨by simp [survives, Nat.mod_one], ?_⟩
        rw [← e]
      · exact k2 hk1 n hn

theorem str_ext {a b : Str} (hl : a.length = b.length) (h : ∀ i : Nat, a.getD i 0 = b.getD i 0) : a = b := by
  apply List.ext_getElem hl
  intro i h1 h2
  have := h i
  simpa [List.getD_eq_getElem?_getD, List.getElem?_eq_getElem h1, List.getElem?_eq_getElem h2] using this

/-- after a crash in which everything survives the file is what it was -/
theorem crash_all {D : Dsk} (ht : D.Tidy) (hok : D.Ok) (f : Int) : (crashF [1] 0 D.queue D.file f).2 = (D.file f).1 := by
  obtain ⟨K, k1, k2, k3⟩ := crashF_torn [1] f D.queue 0 D.file (fun p hp => (hok.q p hp).2.2.1) (ht.len f)
  have hlen : (crashF [1] 0 D.queue D.file f).2.length = (D.file f).1.length := by
    have h1 := k3.lo
    have h2 := k3.hi
    by_cases hl : (D.file f).2.length < (D.file f).1.length
    · have := k3.sec _ (k2 rfl _ (ht.last f hl)) (by omega)
      omega
    · omega
  refine str_ext hlen fun i => ?_
  by_cases hK : K ((i / 64 : Nat) : Int)
  · exact (k3.byte i).1 hK
  · rw [(k3.byte i).2 hK]
    exact (ht.clean f i (fun hc => hK (k2 rfl _ hc))).symm
/-- .. in which nothing survives: what is durable -/
theorem crash_none (D : Dsk) (f : Int) : (crashF [] 0 D.queue D.file f).2 = (D.file f).2 := by rw [crashF_nil]
/-- .. in any: sector by sector the one or the other -/
theorem crash_some {D : Dsk} (ht : D.Tidy) (hok : D.Ok) (keep : List Int) (f : Int) : (D.file f).2.length ≤ (crashF keep 0 D.queue D.file f).2.length ∧ (crashF keep 0 D.queue D.file f).2.length ≤ (D.file f).1.length ∧
    ∀ n : Nat, (∀ j : Nat, j / 64 = n → (crashF keep 0 D.queue D.file f).2.getD j 0 = (D.file f).1.getD j 0) ∨ (∀ j : Nat, j / 64 = n → (crashF keep 0 D.queue D.file f).2.getD j 0 = (D.file f).2.getD j 0) := by
  obtain ⟨K, _, _, k3⟩ := crashF_torn keep f D.queue 0 D.file (fun p hp => (hok.q p hp).2.2.1) (ht.len f)
  refine ⟨k3.lo, k3.hi, fun n => ?_⟩
  by_cases hK : K (n : Int)
  · exact .inl fun j hj => (k3.byte j).1 (by rw [hj]; exact hK)
  · exact .inr fun j hj => (k3.byte j).2 (by rw [hj]; exact hK)
end Dsk
end Go.Proofs.Ytddmgkppefhlbaa
