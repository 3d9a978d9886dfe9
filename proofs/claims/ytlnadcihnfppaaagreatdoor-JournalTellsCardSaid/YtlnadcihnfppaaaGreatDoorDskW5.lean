/-
  The disk's write, every case.
-/
import Derived.Test.YtlnadcihnfppaaaGreatDoorDskW4
namespace Go.Proofs.YtlnadcihnfppaaaGreatDoor
set_option linter.unusedVariables false
set_option linter.unusedSimpArgs false
set_option linter.unusedSectionVars false
set_option maxRecDepth 20000
open Go.RowKit

section
variable {w : World} {b : Nat} {D : Dsk} {F : Foot}

set_option maxHeartbeats 400000 in
theorem dwrite_c (h : IsDisk w b D F) (f at_ : Int) (s : Str) (ha : I64 at_) (hl : s.length ≤ 1000000) :
    Calls Tryz.prog 50 #[.pointer (some ⟨b, 0, none⟩), .int .i64 f, .int .i64 at_, strV s] w fun e w' => e = .returned (.int .i64 (D.write0 f at_ s).2) ∧ DiskTo w b F (D.write0 f at_ s).1 w' := by
  by_cases h1 : D.may f = 0
  · by_cases h2 : at_ < 0
    · have Hp := Lib.hid (show D.write0 f at_ s = (D, 1) from by simp [Dsk.write0, h1, h2])
      have hmc := dmay_c h f
      rw [h1] at hmc
      have H := Lib.hid h
      clear h1 h
      rw [Hp.out]
      go_enter Tryz.func50, Tryz.ntmps50
      go_wp2_with (go_at_call 46; refine hmc.mono ?_; rintro e w' ⟨rfl, rfl⟩)
      go_ret
      exact ⟨rfl, .same H.out⟩
    · by_cases h3 : Dsk.fits at_ s
      · have e : D.write0 f at_ s = (D.add f at_.toNat s, 0) := by simp [Dsk.write0, h1, h2, h3]
        rw [e]
        by_cases h4 : s = []
        · have Hp : D.add f at_.toNat s = D := by simp [Dsk.add, h4]
          rw [Hp]
          have hmc := dmay_c h f
          rw [h1] at hmc
          have H := Lib.hid h
          subst h4
          obtain ⟨h5, h6, h7⟩ := h3
          clear h1 h Hp e h7
          go_enter Tryz.func50, Tryz.ntmps50
          go_wp2_with (go_at_call 46; refine hmc.mono ?_; rintro e w' ⟨rfl, rfl⟩)
          all_goals (go_ret; exact ⟨rfl, .same H.out⟩)
        · exact dwrite_some h f at_ s h1 h3 h4
      · have Hp : D.write0 f at_ s = (D, 6) := by simp [Dsk.write0, h1, h2, h3]
        rw [Hp]
        have hmc := dmay_c h f
        rw [h1] at hmc
        have H := Lib.hid h
        have h5 : 0 ≤ at_ := by omega
        have h6 : 16777216 < at_ ∨ (at_ ≤ 16777216 ∧ 16777216 - at_ < (s.length : Int)) := by unfold Dsk.fits at h3; omega
        clear h1 h Hp h3 h2
        rcases h6 with h6 | ⟨h6, h7⟩
        · go_enter Tryz.func50, Tryz.ntmps50
          go_wp2_with (go_at_call 46; refine hmc.mono ?_; rintro e w' ⟨rfl, rfl⟩)
          all_goals (go_ret; exact ⟨rfl, .same H.out⟩)
        · go_enter Tryz.func50, Tryz.ntmps50
          go_wp2_with (go_at_call 46; refine hmc.mono ?_; rintro e w' ⟨rfl, rfl⟩)
          all_goals (go_ret; exact ⟨rfl, .same H.out⟩)
  · have Hp := Lib.hid (show D.write0 f at_ s = (D, D.may f) from by simp [Dsk.write0, h1])
    have h2 : (D.may f != 0) = true := by simp [h1]
    have hmc := dmay_c h f
    have H := Lib.hid h
    clear h1 h
    go_enter Tryz.func50, Tryz.ntmps50
    go_wp2_with (go_at_call 46; refine hmc.mono ?_; rintro e w' ⟨rfl, rfl⟩)
    go_ret
    rw [Hp.out]
    exact ⟨rfl, .same H.out⟩
end
end Go.Proofs.YtlnadcihnfppaaaGreatDoor
