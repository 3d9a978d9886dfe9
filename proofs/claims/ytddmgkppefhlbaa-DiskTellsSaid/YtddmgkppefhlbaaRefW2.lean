/-
  The reference's disk, walked: pending, set.
-/
import Derived.Test.YtddmgkppefhlbaaRefW1
import Derived.Test.YtddmgkppefhlbaaRegion
import Derived.Test.YtddmgkppefhlbaaClone
import Derived.Test.YtddmgkppefhlbaaSecDel
namespace Go.Proofs.Ytddmgkppefhlbaa
set_option linter.unusedVariables false
set_option linter.unusedSimpArgs false
set_option linter.unusedSectionVars false
open Go.RowKit

section
variable {w : World} {b : Nat} {D : Dsk} {F : Foot}

set_option maxHeartbeats 1000000 in
theorem rpending_c (h : IsRef w b D F) (f n : Int) : Calls Try.prog 62 #[.pointer (some ⟨b, 0, none⟩), .int .i64 f, .int .i64 n] w fun e w' => e = .returned (.bool (decide ((f, n) ∈ D.queue))) ∧ w = w' := by
  obtain ⟨x, h, _⟩ := h
  obtain ⟨A, c, e, hc1, hc2, hr⟩ := Reads.of_own h.own
  have hl := h.ok.qlen
  obtain ⟨_, d1, _⟩ := h.cells
  rw [e] at d1
  have HR := Lib.hid hr
  clear h hr
  go_enter Try.func62, Try.ntmps62
  go_wp2
  go_loopw [7] (fun v wr => ∃ j : Nat, j ≤ D.queue.length ∧ v = .int .i64 (j : Int) ∧ (∀ p ∈ D.queue.take j, p ≠ (f, n)) ∧ wr = w) (fun v _ => D.queue.length - (intOf v).toNat)
  case atStart => exact ⟨0, by omega, by go_num, by simp, rfl⟩
  case round =>
    obtain ⟨j, hj, rfl, hn, hw⟩ := hrel
    subst hw
    by_cases hlt : j < D.queue.length
    · obtain ⟨g, off, rfl, _, hg, hcc⟩ := HR.out.form (by omega) (by decide)
      obtain ⟨c0, c1⟩ := secCells_get D.queue j hlt
      have q0 := hcc _ _ c0
      have q1 : wr.cell? ⟨g, off + j * 2 + 1, none⟩ = _ := hcc _ _ c1
      clear c0 c1 hcc
      by_cases h1 : D.queue[j].1 = f
      · have b1 : (D.queue[j].1 == f) = true := by simp [h1]
        by_cases h2 : D.queue[j].2 = n
        · have b2 : (D.queue[j].2 == n) = true := by simp [h2]
          have hm := Lib.hid (show decide ((f, n) ∈ D.queue) = true from by
            have : D.queue[j] = (f, n) := Prod.ext h1 h2
            rw [← this]
            simp)
          go_wp2
          go_ret
          exact ⟨by rw [hm.out]; rfl, rfl⟩
        · have b2 : (D.queue[j].2 == n) = false := by simp [h2]
          have Hn := Lib.hid hn
          clear hn
          go_wp2
          go_roundw
          case rel =>
            refine ⟨j + 1, by omega, by go_num, fun p hp => ?_, trivial⟩
            rw [List.take_add_one, List.getElem?_eq_getElem hlt] at hp
            rcases List.mem_append.1 hp with hp | hp
            · exact Hn.out p hp
            · simp at hp; rw [hp]; exact fun e => h2 (by rw [e])
          case measure => simp [intOf]; omega
      · have b1 : (D.queue[j].1 == f) = false := by simp [h1]
        have Hn := Lib.hid hn
        clear hn
        go_wp2
        go_roundw
        case rel =>
          refine ⟨j + 1, by omega, by go_num, fun p hp => ?_, trivial⟩
          rw [List.take_add_one, List.getElem?_eq_getElem hlt] at hp
          rcases List.mem_append.1 hp with hp | hp
          · exact Hn.out p hp
          · simp at hp; rw [hp]; exact fun e => h1 (by rw [e])
        case measure => simp [intOf]; omega
    · have hm := Lib.hid (show decide ((f, n) ∈ D.queue) = false from by
        rw [List.take_of_length_le (by omega)] at hn
        simp only [decide_eq_false_iff_not]
        exact fun hm => hn _ hm rfl)
      go_wp2
      go_ret
      exact ⟨by rw [hm.out]; rfl, rfl⟩
end
end Go.Proofs.Ytddmgkppefhlbaa
