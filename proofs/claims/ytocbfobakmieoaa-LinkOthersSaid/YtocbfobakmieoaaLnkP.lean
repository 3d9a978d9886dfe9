/-
  The plain laws of LinkConserves, LinkCuts and LinkParts. No condition.
-/
import Derived.Test.YtocbfobakmieoaaLnk
namespace Go.Proofs.Ytocbfobakmieoaa
set_option linter.unusedVariables false
set_option linter.unusedSimpArgs false
set_option linter.unusedSectionVars false
namespace Lnk

/-! ### one event -/
theorem do_bad {a : Air} {e : Ev} (h : (do_ a e).2.2 ≠ 0) : (do_ a e).2.1 = [] := by
  unfold do_ at h ⊢
  split
  · rfl
  split
  · rename_i h1 h2
    rw [if_neg h1, if_pos h2] at h
    simp only at h ⊢
    rw [if_neg h]
  split
  · rfl
  split
  · rfl
  split
  · rfl
  split
  · rfl
  · rfl

/-- copies that an event adds, and takes away -/
def more (a : Air) (e : Ev) (m : Msg) : Nat :=
  if (do_ a e).2.2 = 0 then (if e.k = 3 ∧ msg a e.a = m then 1 else 0) + (if e.k = 0 ∧ (⟨e.a, e.b, e.t⟩ : Msg) = m then 1 else 0) else 0
def gone (a : Air) (e : Ev) (m : Msg) : Nat := if (do_ a e).2.2 = 0 then (if e.k = 2 ∧ msg a e.a = m then 1 else 0) else 0

theorem count_erase {l : List Msg} {i : Nat} (h : i < l.length) (m : Msg) : (l.eraseIdx i).count m + (if l[i] = m then 1 else 0) = l.count m := by
  induction l generalizing i with
  | nil => simp at h
  | cons x l ih =>
    cases i with
    | zero =>
      simp only [List.eraseIdx_cons_zero, List.getElem_cons_zero, List.count_cons, beq_iff_eq]
    | succ i =>
      simp only [List.eraseIdx_cons_succ, List.getElem_cons_succ, List.count_cons]
      have := ih (i := i) (by simpa using h)
      omega
theorem msg_get {a : Air} {i : Int} (h0 : 0 ≤ i) (h1 : i < a.ms.length) : ∃ h : i.toNat < a.ms.length, msg a i = a.ms[i.toNat] := by
  have : i.toNat < a.ms.length := by omega
  exact ⟨this, by simp [msg, List.getD_eq_getElem?_getD, List.getElem?_eq_getElem this]⟩
theorem count_without {a : Air} {i : Int} (h0 : 0 ≤ i) (h1 : i < a.ms.length) (m : Msg) : (without a i).ms.count m + (if msg a i = m then 1 else 0) = a.ms.count m := by
  obtain ⟨h, e⟩ := msg_get h0 h1
  rw [e]
  exact count_erase h m
theorem with_zero {a : Air} {m : Msg} (h : (with_ a m).2 = 0) : (with_ a m).1 = { a with ms := a.ms ++ [m] } := by
  unfold with_ at h ⊢
  split
  · rename_i hl; rw [if_pos hl] at h; simp at h
  · rfl

theorem conserve1 (a : Air) (e : Ev) (m : Msg) : (next a e).ms.count m + (do_ a e).2.1.count m + gone a e m = a.ms.count m + more a e m := by
  by_cases h0 : (do_ a e).2.2 = 0
  · have hn : next a e = (do_ a e).1 := by unfold next; rw [if_pos h0]
    rw [hn]
    unfold gone more
    rw [if_pos h0, if_pos h0]
    unfold do_ at h0 ⊢
    by_cases k0 : e.k = 0
    · rw [if_pos k0] at h0 ⊢
      simp only at h0 ⊢
      unfold send at h0 ⊢
      split
      · rename_i hb; rw [if_pos hb] at h0; simp at h0
      · rename_i hb
        rw [if_neg hb] at h0
        rw [with_zero h0]
        simp only [k0, List.count_append, List.count_nil, List.count_cons, beq_iff_eq]
        simp
    rw [if_neg k0] at h0 ⊢
    by_cases k1 : e.k = 1
    · rw [if_pos k1] at h0 ⊢
      simp only at h0 ⊢
      unfold deliver at h0 ⊢
      split
      · rename_i hb; rw [if_pos hb] at h0; exact absurd h0 hb
      · rename_i hb
        rw [if_neg hb] at h0
        split
        · rename_i hc; rw [if_pos hc] at h0; simp at h0
        · simp only [Classical.not_not] at hb
          obtain ⟨_, b2, b3⟩ := bad_zero hb
          have := count_without b2 b3 m
          simp only [if_true, k1, List.count_cons, List.count_nil, beq_iff_eq]
          simp
          omega
    rw [if_neg k1] at h0 ⊢
    by_cases k2 : e.k = 2
    · rw [if_pos k2] at h0 ⊢
      simp only at h0 ⊢
      unfold lose at h0 ⊢
      split
      · rename_i hb; rw [if_pos hb] at h0; exact absurd h0 hb
      · rename_i hb
        simp only [Classical.not_not] at hb
        obtain ⟨_, b2, b3⟩ := bad_zero hb
        have := count_without b2 b3 m
        simp only [k2, List.count_nil]
        simp
        omega
    rw [if_neg k2] at h0 ⊢
    by_cases k3 : e.k = 3
    · rw [if_pos k3] at h0 ⊢
      simp only at h0 ⊢
      unfold double at h0 ⊢
      split
      · rename_i hb; rw [if_pos hb] at h0; exact absurd h0 hb
      · rename_i hb
        rw [if_neg hb] at h0
        rw [with_zero h0]
        simp only [k3, List.count_append, List.count_nil, List.count_cons, beq_iff_eq]
        simp
    rw [if_neg k3] at h0 ⊢
    by_cases k4 : e.k = 4
    · rw [if_pos k4] at h0 ⊢
      simp only at h0 ⊢
      unfold cut at h0 ⊢
      split
      · rename_i hb; rw [if_pos hb] at h0; simp at h0
      · rename_i hb
        rw [if_neg hb] at h0
        split
        · rename_i hc; rw [if_pos hc] at h0; simp at h0
        · simp [k4]
    rw [if_neg k4] at h0 ⊢
    by_cases k5 : e.k = 5
    · rw [if_pos k5] at h0 ⊢
      simp only at h0 ⊢
      unfold heal at h0 ⊢
      split
      · rename_i hb; rw [if_pos hb] at h0; simp at h0
      · rename_i hb
        rw [if_neg hb] at h0
        split
        · rename_i hc; rw [if_pos hc] at h0; simp at h0
        · simp [k5]
    rw [if_neg k5] at h0
    simp at h0
  · have hn : next a e = a := by unfold next; rw [if_neg h0]
    unfold gone more
    rw [hn, do_bad h0, if_neg h0, if_neg h0]
    simp
def mores (a : Air) : List Ev → Msg → Nat
  | [], _ => 0
  | e :: l, m => more a e m + mores (next a e) l m
def gones (a : Air) : List Ev → Msg → Nat
  | [], _ => 0
  | e :: l, m => gone a e m + gones (next a e) l m
theorem conserve (m : Msg) (l : List Ev) : ∀ a : Air, (runs a l).1.ms.count m + (runs a l).2.1.count m + gones a l m = a.ms.count m + mores a l m := by
  induction l with
  | nil => intro a; simp [runs, gones, mores]
  | cons e l ih =>
    intro a
    have h1 := conserve1 a e m
    have h2 := ih (next a e)
    simp only [runs, gones, mores, List.count_append]
    omega
/-- where an event that loses or doubles is OK, its message is there -/
theorem ok_index {a : Air} {e : Ev} (h : (do_ a e).2.2 = 0) (hk : e.k = 2 ∨ e.k = 3 ∨ e.k = 1) : 0 ≤ e.a ∧ e.a < a.ms.length := by
  have hb : bad a e.a = 0 := by
    unfold do_ at h
    rcases hk with k | k | k
    · rw [if_neg (by omega), if_neg (by omega), if_pos k] at h
      simp only [lose] at h
      by_cases hb : bad a e.a = 0
      · exact hb
      · rw [if_pos hb] at h; exact h
    · rw [if_neg (by omega), if_neg (by omega), if_neg (by omega), if_pos k] at h
      simp only [double] at h
      by_cases hb : bad a e.a = 0
      · exact hb
      · rw [if_pos hb] at h; exact h
    · rw [if_neg (by omega), if_pos k] at h
      simp only [deliver] at h
      by_cases hb : bad a e.a = 0
      · exact hb
      · rw [if_pos hb] at h; exact h
  exact (bad_zero hb).2

/-! ### LinkParts -/
/-- where a message that arrives comes from -/
theorem came_from (m : Msg) (l : List Ev) : ∀ a : Air, m ∈ (runs a l).2.1 → m ∈ a.ms ∨ ∃ e ∈ l, e.k = 0 ∧ (⟨e.a, e.b, e.t⟩ : Msg) = m := by
  intro a hm
  have h1 := conserve m l a
  have h2 : 0 < (runs a l).2.1.count m := List.count_pos_iff.2 hm
  by_cases h3 : 0 < a.ms.count m
  · exact .inl (List.count_pos_iff.1 h3)
  · -- a message that is doubled is there
    clear h1 h2
    induction l generalizing a with
    | nil => simp [runs] at hm
    | cons e l ih =>
      simp only [runs, List.mem_append] at hm
      have h0 : m ∉ a.ms := fun hc => h3 (List.count_pos_iff.2 hc)
      have hc1 := conserve1 a e m
      have hmore : more a e m = (if (do_ a e).2.2 = 0 ∧ e.k = 0 ∧ (⟨e.a, e.b, e.t⟩ : Msg) = m then 1 else 0) := by
        unfold more
        by_cases hz : (do_ a e).2.2 = 0
        · rw [if_pos hz]
          have : ¬ (e.k = 3 ∧ msg a e.a = m) := by
            rintro ⟨k, hmm⟩
            obtain ⟨i0, i1⟩ := ok_index hz (.inr (.inl k))
            exact h0 (hmm ▸ msg_mem i0 i1)
          simp [this, hz]
        · simp [hz]
      by_cases hs : e.k = 0 ∧ (⟨e.a, e.b, e.t⟩ : Msg) = m
      · exact .inr ⟨e, by simp, hs⟩
      · have hz : more a e m = 0 := by rw [hmore, if_neg fun hc => hs hc.2]
        have hnc : a.ms.count m = 0 := by omega
        rcases hm with hm | hm
        · have := List.count_pos_iff.2 hm
          omega
        · have hn : ¬ 0 < (next a e).ms.count m := by omega
          rcases ih (next a e) hm hn with hx | ⟨f, hf, hx⟩
          · exact absurd (List.count_pos_iff.2 hx) hn
          · exact .inr ⟨f, by simp [hf], hx⟩

/-! ### LinkCuts -/
theorem pair_comm (x y : Int) : pair x y = pair y x := by simp [pair, Int.min_comm, Int.max_comm]
theorem pair_eq {x y u v : Int} (h : pair x y = pair u v) : (x = u ∧ y = v) ∨ (x = v ∧ y = u) := by
  simp only [pair, Pr.mk.injEq] at h
  omega
/-- a pair that no event heals stays cut -/
theorem cut_next {a : Air} {x y : Int} {e : Ev} (h : isCut a x y = true) (he : ¬ (e.k = 5 ∧ pair e.a e.b = pair x y)) : isCut (next a e) x y = true := by
  unfold next
  split
  · rename_i h0
    unfold isCut at h ⊢
    rw [decide_eq_true_eq] at h ⊢
    unfold do_ at h0 ⊢
    by_cases k0 : e.k = 0
    · rw [if_pos k0] at h0 ⊢
      simp only at h0 ⊢
      unfold send at h0 ⊢
      split
      · rename_i hb; rw [if_pos hb] at h0; simp at h0
      · rename_i hb; rw [if_neg hb] at h0; rw [with_zero h0]; exact h
    rw [if_neg k0] at h0 ⊢
    by_cases k1 : e.k = 1
    · rw [if_pos k1] at h0 ⊢
      simp only at h0 ⊢
      unfold deliver at h0 ⊢
      split
      · rename_i hb; rw [if_pos hb] at h0; exact absurd h0 hb
      · rename_i hb
        rw [if_neg hb] at h0
        split
        · rename_i hc; rw [if_pos hc] at h0; simp at h0
        · exact h
    rw [if_neg k1] at h0 ⊢
    by_cases k2 : e.k = 2
    · rw [if_pos k2] at h0 ⊢
      simp only at h0 ⊢
      unfold lose at h0 ⊢
      split
      · rename_i hb; rw [if_pos hb] at h0; exact absurd h0 hb
      · exact h
    rw [if_neg k2] at h0 ⊢
    by_cases k3 : e.k = 3
    · rw [if_pos k3] at h0 ⊢
      simp only at h0 ⊢
      unfold double at h0 ⊢
      split
      · rename_i hb; rw [if_pos hb] at h0; exact absurd h0 hb
      · rename_i hb; rw [if_neg hb] at h0; rw [with_zero h0]; exact h
    rw [if_neg k3] at h0 ⊢
    by_cases k4 : e.k = 4
    · rw [if_pos k4] at h0 ⊢
      simp only at h0 ⊢
      unfold cut at h0 ⊢
      split
      · rename_i hb; rw [if_pos hb] at h0; simp at h0
      · rename_i hb
        rw [if_neg hb] at h0
        split
        · rename_i hc; rw [if_pos hc] at h0; simp at h0
        · exact mem_ins.2 (.inr h)
    rw [if_neg k4] at h0 ⊢
    by_cases k5 : e.k = 5
    · rw [if_pos k5] at h0 ⊢
      simp only at h0 ⊢
      unfold heal at h0 ⊢
      split
      · rename_i hb; rw [if_pos hb] at h0; simp at h0
      · rename_i hb
        rw [if_neg hb] at h0
        split
        · rename_i hc; rw [if_pos hc] at h0; simp at h0
        · refine List.mem_filter.2 ⟨h, ?_⟩
          simp only [bne_iff_ne, ne_eq]
          exact fun hc => he ⟨k5, hc.symm⟩
    rw [if_neg k5] at h0
    simp at h0
  · exact h
theorem came_apart {a : Air} {x y : Int} {e : Ev} (h : isCut a x y = true) {m : Msg} (hm : m ∈ (do_ a e).2.1) : pair m.a m.b ≠ pair x y := by
  unfold do_ at hm
  split at hm
  · simp at hm
  split at hm
  · simp only at hm
    split at hm
    · rename_i h0
      simp only [List.mem_singleton] at hm
      subst hm
      unfold deliver at h0 ⊢
      split
      · rename_i hb; rw [if_pos hb] at h0; exact absurd h0 hb
      · rename_i hb
        rw [if_neg hb] at h0
        split
        · rename_i hc; rw [if_pos hc] at h0; simp at h0
        · rename_i hc
          simp only
          intro he
          unfold isCut at h hc
          rw [he] at hc
          exact hc h
    · simp at hm
  split at hm
  · simp at hm
  split at hm
  · simp at hm
  split at hm
  · simp at hm
  split at hm
  · simp at hm
  · simp at hm
theorem cuts_runs {x y : Int} (l : List Ev) : ∀ {a : Air}, isCut a x y = true → (∀ e ∈ l, ¬ (e.k = 5 ∧ pair e.a e.b = pair x y)) → isCut (runs a l).1 x y = true ∧ ∀ m ∈ (runs a l).2.1, pair m.a m.b ≠ pair x y := by
  induction l with
  | nil => intro a h _; exact ⟨h, by simp [runs]⟩
  | cons e l ih =>
    intro a h he
    obtain ⟨h1, h2⟩ := ih (cut_next h (he e (by simp))) fun f hf => he f (by simp [hf])
    refine ⟨h1, fun m hm => ?_⟩
    simp only [runs, List.mem_append] at hm
    rcases hm with hm | hm
    · exact came_apart h hm
    · exact h2 m hm
end Lnk
end Go.Proofs.Ytocbfobakmieoaa
