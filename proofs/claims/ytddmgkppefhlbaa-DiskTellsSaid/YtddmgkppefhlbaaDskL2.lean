/-
  The laws' helpers few, played, after, byteAt, walked. No condition beyond that the arguments lie in memory.
-/
import Derived.Test.YtddmgkppefhlbaaDskL1
import Derived.Test.YtddmgkppefhlbaaTidy
namespace Go.Proofs.Ytddmgkppefhlbaa
set_option linter.unusedVariables false
set_option linter.unusedSimpArgs false
set_option linter.unusedSectionVars false
open Go.RowKit

section
variable {w : World} {S : Nat → Prop} {v : Value} {l : List DAct}

/-- the five cells of an act, by its number -/
theorem Acts.form5 (h : Acts S w v l) (hl : 0 < l.length) :
    ∃ b off cap, v = .slice (some ⟨b, off, none⟩) l.length cap ∧ l.length ≤ cap ∧ cap ≤ maxLen ∧ S b ∧ b < w.heap.size ∧
      ∀ i (hi : i < l.length), ∃ A kc, l[i].keep.length ≤ kc ∧ kc ≤ maxLen ∧ Ints S w (.slice A l[i].keep.length kc) l[i].keep ∧ I64 l[i].d ∧ I64 l[i].f ∧ I64 l[i].n ∧ l[i].s.length ≤ maxLen ∧
        w.cell? ⟨b, off + i * 5, none⟩ = some (.int .i64 l[i].d) ∧ w.cell? ⟨b, off + i * 5 + 1, none⟩ = some (.int .i64 l[i].f) ∧ w.cell? ⟨b, off + i * 5 + 2, none⟩ = some (.int .i64 l[i].n) ∧
        w.cell? ⟨b, off + i * 5 + 3, none⟩ = some (strV l[i].s) ∧ w.cell? ⟨b, off + i * 5 + 4, none⟩ = some (.slice A l[i].keep.length kc) := by
  obtain ⟨b, off, cap, e, h1, h2, h3, h4, h5⟩ := SliceOf.form h (by decide) hl
  refine ⟨b, off, cap, e, h1, h2, h3, h4, fun i hi => ?_⟩
  obtain ⟨cs, ⟨kv, rfl, a1, a2, a3, a4, a5⟩, hc⟩ := h5 i l[i] (List.getElem?_eq_getElem hi)
  obtain ⟨A, kc, rfl, b1, b2, _⟩ := a5.cells
  exact ⟨A, kc, b1, b2, a5, a1, a2, a3, a4, hc 0 _ rfl, hc 1 _ rfl, hc 2 _ rfl, hc 3 _ rfl, hc 4 _ rfl⟩

theorem smallB_take (l : List DAct) : smallB (l.take 0) = true := by simp [smallB]
theorem smallB_succ {l : List DAct} {k : Nat} (hk : k < l.length) (h : smallB (l.take k) = true) (ha : l[k].small) : smallB (l.take (k + 1)) = true := by
  unfold smallB at h ⊢
  rw [decide_eq_true_iff] at h ⊢
  rw [List.take_succ_eq_append_getElem hk]
  intro a hm
  rcases List.mem_append.1 hm with hm | hm
  · exact h a hm
  · simp at hm
    subst hm
    exact ha
theorem fewB_no {l : List DAct} {k : Nat} (hk : k < l.length) (ha : ¬ l[k].small) : fewB l = false := by
  unfold fewB smallB
  rw [decide_eq_false (fun h => ha (h _ (List.getElem_mem hk)))]
  rfl
theorem fewB_all {l : List DAct} (h : smallB (l.take l.length) = true) : fewB l = decide (l.length ≤ 40) := by
  rw [List.take_length] at h
  simp [fewB, h]

set_option maxHeartbeats 1000000 in
theorem few_c (h : Acts S w v l) : Calls Try.prog 9 #[v] w fun e w' => e = .returned (.bool (fewB l)) ∧ w = w' := by
  by_cases hl : 0 < l.length
  · obtain ⟨b, off, cap, rfl, h1, h2, _, _, h5⟩ := h.form5 hl
    have H5 := Lib.hid h5
    unfold maxLen at h2
    clear h5 h
    go_enter Try.func9, Try.ntmps9
    go_wp2
    go_loop [3] (fun i => ∃ k : Nat, k ≤ l.length ∧ i = .int .i64 (k : Int) ∧ smallB (l.take k) = true) (fun i => l.length - (intOf i).toNat)
    case atStart => exact ⟨0, by omega, by go_num, smallB_take l⟩
    case round =>
      obtain ⟨k, hk, rfl, hs⟩ := hrel
      have Hs := Lib.hid hs
      clear hs
      by_cases hlt : k < l.length
      · obtain ⟨A, kc, g1, g2, _, _, _, _, g3, c0, c1, c2, c3, c4⟩ := H5.out k hlt
        unfold maxLen at g2 g3
        by_cases ha : l[k].small
        · have Ha := Lib.hid ha
          obtain ⟨a1, a2, a3⟩ := ha
          have b1 : ¬ (300 < (l[k].s.length : Int)) := by omega
          have b2 : ¬ (60 < (l[k].keep.length : Int)) := by omega
          rcases a3 with a3 | a3
          · have b3 : ¬ (3000 < l[k].n) := by omega
            go_wp2
            go_round
            case rel => exact ⟨k + 1, by omega, by go_num, smallB_succ hlt Hs.out Ha.out⟩
            case measure => simp [intOf]; omega
          · have b3 : (3000 < l[k].n) := by omega
            have b4 : ¬ (l[k].n < 16776916) := by omega
            go_wp2
            go_round
            case rel => exact ⟨k + 1, by omega, by go_num, smallB_succ hlt Hs.out Ha.out⟩
            case measure => simp [intOf]; omega
        · have Hn := Lib.hid (fewB_no hlt ha)
          have h3 : 300 < l[k].s.length ∨ (l[k].s.length ≤ 300 ∧ 60 < l[k].keep.length) ∨ (l[k].s.length ≤ 300 ∧ l[k].keep.length ≤ 60 ∧ 3000 < l[k].n ∧ l[k].n < 16776916) := by
            unfold DAct.small at ha
            omega
          clear ha
          rcases h3 with b1 | ⟨b1, b2⟩ | ⟨b1, b2, b3, b4⟩
          all_goals
            go_wp2
            go_ret
            rw [Hn.out]
            exact ⟨rfl, rfl⟩
      · obtain rfl : k = l.length := by omega
        have Hn := Lib.hid (fewB_all Hs.out)
        go_wp2
        go_ret
        rw [Hn.out]
        exact ⟨ret_bool (by simp; omega), rfl⟩
  · obtain rfl : l = [] := List.eq_nil_of_length_eq_zero (by omega)
    obtain ⟨A, cap, rfl, _, _⟩ := SliceOf.shape h
    clear h hl
    go_enter Try.func9, Try.ntmps9
    go_wp2
    go_loop [3] (fun i => i = .int .i64 0) (fun i => 0)
    case atStart => rfl
    case round =>
      subst hrel
      go_wp2
      go_ret
      exact ⟨rfl, rfl⟩
end
end Go.Proofs.Ytddmgkppefhlbaa
