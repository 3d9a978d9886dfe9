/-
  The reference's disk, walked: comes, Write, Sync, Truncate.
-/
import Derived.Test.YtddmgkppefhlbaaRefW7
namespace Go.Proofs.Ytddmgkppefhlbaa
set_option linter.unusedVariables false
set_option linter.unusedSimpArgs false
set_option linter.unusedSectionVars false
open Go.RowKit

def Dsk.comes (D : Dsk) (f at_ : Int) (s : Str) : Dsk := if D.ends then (D.tick.write0 f at_ s).1.crash (D.tick.write0 f at_ s).1.keep else D.tick

section
variable {w : World} {b : Nat} {D : Dsk} {F : Foot}

set_option maxRecDepth 100000 in
set_option maxHeartbeats 2000000 in
theorem rcomes_c (h : IsRef w b D F) (f at_ : Int) (s : Str) (ha : I64 at_) (hs : s.length ≤ 1000000) :
    Calls Try.prog 50 #[.pointer (some ⟨b, 0, none⟩), .int .i64 f, .int .i64 at_, strV s] w fun e w' => e = .returned (.tuple #[]) ∧ RefTo w b F (D.comes f at_ s) w' := by
  obtain ⟨x, h, hF⟩ := h
  obtain ⟨_, _, _, d3, d4, d5⟩ := h.cells
  have z4 := h.blk.frozen 4
  have har := h.ok.armed
  have HF := Lib.hid hF
  have H := Lib.hid h
  cases hd : D.down with
  | true =>
    have Hp := Lib.hid (show D.comes f at_ s = D by simp [Dsk.comes, Dsk.ends, Dsk.tick, hd])
    rw [hd] at d3
    clear h hF hd
    go_enter Try.func50, Try.ntmps50
    go_wp2
    refine bodyPost_ret (results_none rfl _ _ _) rfl ?_
    rw [Hp.out]
    exact ⟨rfl, .same ⟨x, H.out, HF.out⟩⟩
  | false =>
    rw [hd] at d3
    by_cases h0 : D.armed = 0
    · have Hp := Lib.hid (show D.comes f at_ s = D by simp [Dsk.comes, Dsk.ends, Dsk.tick, h0])
      have h0' : (D.armed == 0) = true := by simp [h0]
      clear h hF hd h0
      go_enter Try.func50, Try.ntmps50
      go_wp2
      refine bodyPost_ret (results_none rfl _ _ _) rfl ?_
      rw [Hp.out]
      exact ⟨rfl, .same ⟨x, H.out, HF.out⟩⟩
    · have et : D.tick = { D with armed := D.armed - 1 } := by simp [Dsk.tick, hd, h0]
      have h0' : (D.armed == 0) = false := by simp [h0]
      have HT := Lib.hid (h.store (D' := D.tick) 4 (.int .i64 (D.armed - 1)) (by rw [et]; rfl) (by rw [et]) (by rw [et]) (by rw [et]) h.ok.tick)
      have HTO := Lib.hid (show Only F.m w (w.setCell ⟨b, 4, none⟩ (.int .i64 (D.armed - 1))) from (Only.refl F.m w).setCell (p := ⟨b, 4, none⟩) (.inl (by rw [hF]; exact .inl rfl)) _)
      by_cases h2 : D.armed = 1
      · have hen : D.ends = true := by simp [Dsk.ends, hd, h2]
        have hkeep : (D.tick.write0 f at_ s).1.keep = D.keep := by
          have : D.tick.keep = D.keep := by rw [et]
          unfold Dsk.write0
          split
          · exact this
          split
          · exact this
          split
          · exact this
          · simp only [Dsk.add]
            split <;> exact this
        have htd : D.tick.down = false := by rw [et]; exact hd
        have h2' : ¬ (0 < D.armed - 1) := by omega
        have h2b : D.armed - 1 ≤ 0 := by omega
        by_cases hin : 0 ≤ f ∧ f ≤ 15 ∧ Dsk.fits at_ s
        · obtain ⟨f0, f1, hfit⟩ := hin
          obtain ⟨t0, t1, t2⟩ := hfit
          have hw0 : (D.tick.write0 f at_ s).1 = D.tick.add f at_.toNat s := by
            simp only [Dsk.write0, Dsk.may, htd]
            rw [if_neg (by simp; omega), if_neg (by omega), if_neg (by simp [Dsk.fits]; omega)]
          have Hp := Lib.hid (show D.comes f at_ s = (D.tick.add f at_.toNat s).crash D.keep by unfold Dsk.comes; rw [hen, if_pos rfl, hkeep, hw0])
          have hff := fun W : World => rfits_c (w := W) at_ s ha hs
          rw [decide_eq_true (show Dsk.fits at_ s from ⟨t0, t1, t2⟩)] at hff
          have HFF := Lib.hid hff
          have hadd := radd_c ⟨x, HT.out, rfl⟩ f at_.toNat s f0 (by omega) (by omega)
          rw [Int.toNat_of_nonneg t0] at hadd
          have HADD := Lib.hid hadd
          have HKE := Lib.hid (show (D.tick.add f at_.toNat s).keep = D.keep by rw [← hkeep, hw0])
          clear h hF hd h0 h2 hff hadd hen et hw0 hkeep htd
          go_enter Try.func50, Try.ntmps50
          go_wp2_with fail
          refine (HFF.out _).mono ?_
          rintro e w' ⟨rfl, rfl⟩
          go_wp2_with fail
          refine HADD.out.mono ?_
          rintro e w2 ⟨rfl, h2⟩
          obtain ⟨F2, ⟨x2, i2, e2⟩, o2, f2, r2⟩ := h2
          have c5 := i2.blk.cell 5
          have HC := Lib.hid (rCrash_own i2)
          have HO := Lib.hid (And.intro e2 (And.intro o2 (And.intro f2 r2)))
          clear i2 e2 o2 f2 r2
          go_wp2_with fail
          refine HC.out.mono ?_
          rintro e w3 ⟨rfl, h3⟩
          have R3 := Lib.hid h3
          clear h3
          go_wp2_with fail
          go_end0
          refine ⟨rfl, ?_⟩
          rw [Hp.out, ← HKE.out]
          refine RefTo.trans HTO.out (fun _ hk => .inl hk) (fun _ hk => .inl hk) ?_
          rw [HF.out]
          exact RefTo.trans HO.out.2.1 HO.out.2.2.1 HO.out.2.2.2 (by rw [HO.out.1]; exact R3.out)
        · have hw0 : (D.tick.write0 f at_ s).1 = D.tick := by
            unfold Dsk.write0
            split
            · rfl
            · rename_i hm
              split
              · rfl
              · split
                · rfl
                · rename_i hm2 hm3
                  exfalso
                  simp only [Classical.not_not] at hm hm3
                  have := Dsk.may_zero hm
                  exact hin ⟨this.2.1, by omega, hm3⟩
          have Hp := Lib.hid (show D.comes f at_ s = D.tick.crash D.keep by unfold Dsk.comes; rw [hen, if_pos rfl, hkeep, hw0])
          have HKE := Lib.hid (show D.tick.keep = D.keep by rw [← hkeep, hw0])
          have hcr := rCrash_own HT.out
          have c5 := HT.out.blk.cell 5
          have HC := Lib.hid hcr
          have hcase : f < 0 ∨ (0 ≤ f ∧ 15 < f) ∨ (0 ≤ f ∧ f ≤ 15 ∧ ¬ Dsk.fits at_ s) := by
            by_cases a : f < 0
            · exact .inl a
            by_cases c : 15 < f
            · exact .inr (.inl ⟨by omega, c⟩)
            exact .inr (.inr ⟨by omega, by omega, fun hc => hin ⟨by omega, by omega, hc⟩⟩)
          clear h hF hd h0 h2 hen et hw0 hkeep htd hin hcr
          rcases hcase with a | ⟨a, c⟩ | ⟨a, c, d⟩
          · go_enter Try.func50, Try.ntmps50
            go_wp2_with fail
            refine HC.out.mono ?_
            rintro e w3 ⟨rfl, h3⟩
            have R3 := Lib.hid h3
            clear h3
            go_wp2_with fail
            go_end0
            refine ⟨rfl, ?_⟩
            rw [Hp.out, ← HKE.out]
            exact RefTo.trans HTO.out (fun _ hk => .inl hk) (fun _ hk => .inl hk) (by rw [HF.out]; exact R3.out)
          · go_enter Try.func50, Try.ntmps50
            go_wp2_with fail
            refine HC.out.mono ?_
            rintro e w3 ⟨rfl, h3⟩
            have R3 := Lib.hid h3
            clear h3
            go_wp2_with fail
            go_end0
            refine ⟨rfl, ?_⟩
            rw [Hp.out, ← HKE.out]
            exact RefTo.trans HTO.out (fun _ hk => .inl hk) (fun _ hk => .inl hk) (by rw [HF.out]; exact R3.out)
          · have hff := fun W : World => rfits_c (w := W) at_ s ha hs
            rw [decide_eq_false d] at hff
            have HFF := Lib.hid hff
            clear hff d
            go_enter Try.func50, Try.ntmps50
            go_wp2_with fail
            refine (HFF.out _).mono ?_
            rintro e w' ⟨rfl, rfl⟩
            go_wp2_with fail
            refine HC.out.mono ?_
            rintro e w3 ⟨rfl, h3⟩
            have R3 := Lib.hid h3
            clear h3
            go_wp2_with fail
            go_end0
            refine ⟨rfl, ?_⟩
            rw [Hp.out, ← HKE.out]
            exact RefTo.trans HTO.out (fun _ hk => .inl hk) (fun _ hk => .inl hk) (by rw [HF.out]; exact R3.out)
      · have Hp := Lib.hid (show D.comes f at_ s = D.tick by
          unfold Dsk.comes
          rw [if_neg]
          simp only [Dsk.ends, hd, Bool.false_or, h0', Bool.not_false, Bool.true_and, beq_iff_eq]
          omega)
        have h2' : 0 < D.armed - 1 := by omega
        clear h hF hd h0 h2 et
        go_enter Try.func50, Try.ntmps50
        go_wp2
        refine bodyPost_ret (results_none rfl _ _ _) rfl ?_
        rw [Hp.out]
        exact ⟨rfl, HT.out.to HTO.out HF.out fun _ hk => .inl hk⟩
end
end Go.Proofs.Ytddmgkppefhlbaa
