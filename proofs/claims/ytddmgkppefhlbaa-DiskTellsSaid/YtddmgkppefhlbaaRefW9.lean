/-
  The reference's disk, walked: Write, Sync, Truncate.
-/
import Derived.Test.YtddmgkppefhlbaaRefW8
namespace Go.Proofs.Ytddmgkppefhlbaa
set_option linter.unusedVariables false
set_option linter.unusedSimpArgs false
set_option linter.unusedSectionVars false
open Go.RowKit

theorem tick_keep (D : Dsk) : D.tick.keep = D.keep ∧ D.tick.down = D.down := by
  unfold Dsk.tick
  split <;> exact ⟨rfl, rfl⟩
theorem ends_up {D : Dsk} (h : D.ends = true) : D.down = false := by
  unfold Dsk.ends at h
  cases hd : D.down with
  | false => rfl
  | true => rw [hd] at h; simp at h
theorem write0_down' (D : Dsk) (f a : Int) (s : Str) : (D.write0 f a s).1.down = D.down ∧ (D.write0 f a s).1.keep = D.keep := by
  unfold Dsk.write0
  split
  · exact ⟨rfl, rfl⟩
  split
  · exact ⟨rfl, rfl⟩
  split
  · exact ⟨rfl, rfl⟩
  · simp only [Dsk.add]
    split <;> exact ⟨rfl, rfl⟩
theorem crash_down {D : Dsk} (keep : List Int) (h : D.down = false) : (D.crash keep).down = true := by
  unfold Dsk.crash
  rw [h]
  rfl
theorem write_comes (D : Dsk) (f a : Int) (s : Str) : D.write f a s = (D.comes f a s).write0 f a s := by
  unfold Dsk.write Dsk.comes
  cases he : D.ends with
  | false => rfl
  | true =>
    simp only [if_true]
    have hd : ((D.tick.write0 f a s).1.crash (D.tick.write0 f a s).1.keep).down = true := crash_down _ ((write0_down' _ _ _ _).1.trans ((tick_keep D).2.trans (ends_up he)))
    generalize (D.tick.write0 f a s).1.crash (D.tick.write0 f a s).1.keep = E at hd
    simp [Dsk.write0, Dsk.may, hd]
theorem comes_tock (D : Dsk) : D.comes 0 0 [] = D.tock := by
  have hw : ∀ E : Dsk, (E.write0 0 0 []).1 = E := by
    intro E
    unfold Dsk.write0
    split
    · rfl
    split
    · rfl
    split
    · rfl
    · simp [Dsk.add]
  unfold Dsk.comes Dsk.tock
  rw [hw, (tick_keep D).1]

section
variable {w : World} {b : Nat} {D : Dsk} {F : Foot}

theorem RefTo.ref {w w1 : World} {D1 : Dsk} (h : RefTo w b F D1 w1) : ∃ F1, IsRef w1 b D1 F1 ∧ ∀ (w2 : World) (D2 : Dsk), RefTo w1 b F1 D2 w2 → RefTo w b F D2 w2 := by
  obtain ⟨F1, i1, o1, f1, r1⟩ := h
  exact ⟨F1, i1, fun _ _ h2 => RefTo.trans o1 f1 r1 h2⟩

set_option maxRecDepth 100000 in
set_option maxHeartbeats 1000000 in
theorem rWrite_c (h : IsRef w b D F) (f at_ : Int) (s : Str) (ha : I64 at_) (hs : s.length ≤ 1000000) :
    Calls Try.prog 38 #[.pointer (some ⟨b, 0, none⟩), .int .i64 f, .int .i64 at_, strV s] w fun e w' => e = .returned (.int .i64 (D.write f at_ s).2) ∧ RefTo w b F (D.write f at_ s).1 w' := by
  rw [write_comes]
  have hc := rcomes_c h f at_ s ha hs
  generalize D.comes f at_ s = E at hc
  have HC := Lib.hid hc
  clear h hc
  by_cases h1 : E.may f = 0
  · by_cases h2 : at_ < 0
    · have Hp := Lib.hid (show E.write0 f at_ s = (E, 1) by simp [Dsk.write0, h1, h2])
      have H1 := Lib.hid h1
      clear h1
      go_enter Try.func38, Try.ntmps38
      go_wp2_with fail
      refine HC.out.mono ?_
      rintro e w1 ⟨rfl, h1⟩
      obtain ⟨F1, i1, k1⟩ := h1.ref
      have hm := rmay_c i1 f
      rw [H1.out] at hm
      have HM := Lib.hid hm
      have R1 := Lib.hid h1
      clear hm i1 k1 h1
      go_wp2_with fail
      refine HM.out.mono ?_
      rintro e w' ⟨rfl, rfl⟩
      go_wp2_with fail
      go_ret
      rw [Hp.out]
      exact ⟨rfl, R1.out⟩
    · have h2' : 0 ≤ at_ := by omega
      by_cases h3 : Dsk.fits at_ s
      · have Hp := Lib.hid (show E.write0 f at_ s = (E.add f at_.toNat s, 0) by simp [Dsk.write0, h1, h2, h3])
        have hz := Dsk.may_zero h1
        have H1 := Lib.hid h1
        have hff := fun W : World => rfits_c (w := W) at_ s ha hs
        rw [decide_eq_true h3] at hff
        have HFF := Lib.hid hff
        obtain ⟨t0, t1, t2⟩ := h3
        have HZ := Lib.hid hz
        have HAT := Lib.hid (Int.toNat_of_nonneg t0)
        clear h1 hff hz h2
        go_enter Try.func38, Try.ntmps38
        go_wp2_with fail
        refine HC.out.mono ?_
        rintro e w1 ⟨rfl, h1⟩
        obtain ⟨F1, i1, k1⟩ := h1.ref
        have hm := rmay_c i1 f
        rw [H1.out] at hm
        have HM := Lib.hid hm
        have hadd := radd_c i1 f at_.toNat s HZ.out.2.1 HZ.out.2.2 (by omega)
        rw [HAT.out] at hadd
        have HADD := Lib.hid hadd
        have K1 := Lib.hid k1
        clear hm i1 k1 h1 hadd
        go_wp2_with fail
        refine HM.out.mono ?_
        rintro e w' ⟨rfl, rfl⟩
        go_wp2_with fail
        refine (HFF.out _).mono ?_
        rintro e w' ⟨rfl, rfl⟩
        go_wp2_with fail
        refine HADD.out.mono ?_
        rintro e w2 ⟨rfl, h2⟩
        have R2 := Lib.hid (K1.out _ _ h2)
        clear h2
        go_wp2_with fail
        go_ret
        rw [Hp.out]
        exact ⟨rfl, R2.out⟩
      · have Hp := Lib.hid (show E.write0 f at_ s = (E, 6) by simp [Dsk.write0, h1, h2, h3])
        have H1 := Lib.hid h1
        have hff := fun W : World => rfits_c (w := W) at_ s ha hs
        rw [decide_eq_false h3] at hff
        have HFF := Lib.hid hff
        clear h1 hff h2 h3
        go_enter Try.func38, Try.ntmps38
        go_wp2_with fail
        refine HC.out.mono ?_
        rintro e w1 ⟨rfl, h1⟩
        obtain ⟨F1, i1, k1⟩ := h1.ref
        have hm := rmay_c i1 f
        rw [H1.out] at hm
        have HM := Lib.hid hm
        have R1 := Lib.hid h1
        clear hm i1 k1 h1
        go_wp2_with fail
        refine HM.out.mono ?_
        rintro e w' ⟨rfl, rfl⟩
        go_wp2_with fail
        refine (HFF.out _).mono ?_
        rintro e w' ⟨rfl, rfl⟩
        go_wp2_with fail
        go_ret
        rw [Hp.out]
        exact ⟨rfl, R1.out⟩
  · have Hp := Lib.hid (show E.write0 f at_ s = (E, E.may f) by simp [Dsk.write0, h1])
    have h2 : (E.may f != 0) = true := by simp [h1]
    clear h1
    go_enter Try.func38, Try.ntmps38
    go_wp2_with fail
    refine HC.out.mono ?_
    rintro e w1 ⟨rfl, h1⟩
    obtain ⟨F1, i1, k1⟩ := h1.ref
    have HM := Lib.hid (rmay_c i1 f)
    have R1 := Lib.hid h1
    clear i1 k1 h1
    go_wp2_with fail
    refine HM.out.mono ?_
    rintro e w' ⟨rfl, rfl⟩
    go_wp2_with fail
    go_ret
    rw [Hp.out]
    exact ⟨rfl, R1.out⟩

set_option maxRecDepth 100000 in
set_option maxHeartbeats 1000000 in
theorem rSync_c (h : IsRef w b D F) (f : Int) :
    Calls Try.prog 32 #[.pointer (some ⟨b, 0, none⟩), .int .i64 f] w fun e w' => e = .returned (.int .i64 (D.sync f).2) ∧ RefTo w b F (D.sync f).1 w' := by
  have hc := rcomes_c h 0 0 [] (by unfold I64; omega) (by simp)
  rw [comes_tock] at hc
  unfold Dsk.sync
  generalize D.tock = E at hc
  have HC := Lib.hid hc
  clear h hc
  by_cases h1 : E.may f = 0
  · have H1 := Lib.hid h1
    have HZ := Lib.hid (Dsk.may_zero h1)
    by_cases h2 : 0 < E.lost
    · have Hp := Lib.hid (show E.sync0 f = ({ E with lost := E.lost - 1 }, 9) by simp [Dsk.sync0, h1, h2])
      clear h1
      go_enter Try.func32, Try.ntmps32
      go_wp2_with fail
      refine HC.out.mono ?_
      rintro e w1 ⟨rfl, h1⟩
      obtain ⟨F1, i1, k1⟩ := h1.ref
      have hm := rmay_c i1 f
      rw [H1.out] at hm
      have HM := Lib.hid hm
      obtain ⟨x, i1, e1⟩ := i1
      have c2 := i1.cells.2.2.1
      have z2 := i1.blk.frozen 2
      have hlo := i1.ok.lost
      have HS := Lib.hid (i1.store (D' := { E with lost := E.lost - 1 }) 2 (.int .i64 (E.lost - 1)) rfl rfl rfl rfl { i1.ok with lost := by have := i1.ok.lost; simp only; omega })
      have K1 := Lib.hid k1
      have HE := Lib.hid e1
      clear hm i1 k1 h1 e1
      go_wp2_with fail
      refine HM.out.mono ?_
      rintro e w' ⟨rfl, rfl⟩
      go_wp2_with fail
      go_ret
      rw [Hp.out]
      exact ⟨rfl, K1.out _ _ (HS.out.to ((Only.refl F1.m w1).setCell (p := ⟨b, 2, none⟩) (.inl (by rw [HE.out]; exact .inl rfl)) _) HE.out fun _ hk => .inl hk)⟩
    · have Hp := Lib.hid (show E.sync0 f = (E.settle f (E.file f).1, 0) by simp [Dsk.sync0, h1, h2])
      clear h1
      go_enter Try.func32, Try.ntmps32
      go_wp2_with fail
      refine HC.out.mono ?_
      rintro e w1 ⟨rfl, h1⟩
      obtain ⟨F1, i1, k1⟩ := h1.ref
      have hm := rmay_c i1 f
      rw [H1.out] at hm
      have HM := Lib.hid hm
      have HG := Lib.hid (rget_c i1 f)
      have I1 := Lib.hid i1
      obtain ⟨x, i2, _⟩ := i1
      have c2 := i2.cells.2.2.1
      have HL := Lib.hid (i2.ok.lens f)
      have K1 := Lib.hid k1
      clear hm i2 k1 h1
      go_wp2_with fail
      refine HM.out.mono ?_
      rintro e w' ⟨rfl, rfl⟩
      go_wp2_with fail
      refine HG.out.mono ?_
      rintro e w2 ⟨rfl, hB⟩
      have O2 := Lib.hid (Only.of_below (F := NoF) hB (Nat.le_refl _))
      have HS := Lib.hid (rsettle_c (I1.out.only O2.out fun _ _ h => h) f (E.file f).1 HZ.out.2.1 HZ.out.2.2 HL.out.1)
      clear hB
      go_wp2_with fail
      refine HS.out.mono ?_
      rintro e w3 ⟨rfl, h3⟩
      have R3 := Lib.hid (K1.out _ _ (RefTo.trans (O2.out.mono fun _ h => h.elim) (fun _ hk => .inl hk) (fun _ hk => .inl hk) h3))
      clear h3
      go_wp2_with fail
      go_ret
      rw [Hp.out]
      exact ⟨rfl, R3.out⟩
  · have Hp := Lib.hid (show E.sync0 f = (E, E.may f) by simp [Dsk.sync0, h1])
    have h2 : (E.may f != 0) = true := by simp [h1]
    clear h1
    go_enter Try.func32, Try.ntmps32
    go_wp2_with fail
    refine HC.out.mono ?_
    rintro e w1 ⟨rfl, h1⟩
    obtain ⟨F1, i1, k1⟩ := h1.ref
    have HM := Lib.hid (rmay_c i1 f)
    have R1 := Lib.hid h1
    clear i1 k1 h1
    go_wp2_with fail
    refine HM.out.mono ?_
    rintro e w' ⟨rfl, rfl⟩
    go_wp2_with fail
    go_ret
    rw [Hp.out]
    exact ⟨rfl, R1.out⟩

set_option maxRecDepth 100000 in
set_option maxHeartbeats 1000000 in
theorem rTruncate_c (h : IsRef w b D F) (f size : Int) (hsz : I64 size) :
    Calls Try.prog 33 #[.pointer (some ⟨b, 0, none⟩), .int .i64 f, .int .i64 size] w fun e w' => e = .returned (.int .i64 (D.truncate f size).2) ∧ RefTo w b F (D.truncate f size).1 w' := by
  have hc := rcomes_c h 0 0 [] (by unfold I64; omega) (by simp)
  rw [comes_tock] at hc
  unfold Dsk.truncate
  generalize D.tock = E at hc
  have HC := Lib.hid hc
  clear h hc
  by_cases h1 : E.may f = 0
  · have H1 := Lib.hid h1
    have HZ := Lib.hid (Dsk.may_zero h1)
    by_cases h2 : size < 0 ∨ ((E.file f).1.length : Int) < size
    · have Hp := Lib.hid (show E.truncate0 f size = (E, 1) by simp [Dsk.truncate0, h1, h2])
      have h3 : size < 0 ∨ (0 ≤ size ∧ ((E.file f).1.length : Int) < size) := by omega
      clear h1 h2
      rcases h3 with h3 | ⟨h3, h4⟩
      all_goals
        go_enter Try.func33, Try.ntmps33
        go_wp2_with fail
        refine HC.out.mono ?_
        rintro e w1 ⟨rfl, h1⟩
        obtain ⟨F1, i1, k1⟩ := h1.ref
        have hm := rmay_c i1 f
        rw [H1.out] at hm
        have HM := Lib.hid hm
        have HG := Lib.hid (rget_c i1 f)
        have R1 := Lib.hid h1
        clear hm i1 k1 h1
        go_wp2_with fail
        refine HM.out.mono ?_
        rintro e w' ⟨rfl, rfl⟩
        go_wp2_with fail
        refine HG.out.mono ?_
        rintro e w2 ⟨rfl, hB⟩
        have O2 := Lib.hid (Only.of_below (F := NoF) hB (Nat.le_refl _))
        clear hB
        go_wp2_with fail
        go_ret
        rw [Hp.out]
        exact ⟨rfl, R1.out.more O2.out⟩
    · have Hp := Lib.hid (show E.truncate0 f size = (E.settle f ((E.file f).1.take size.toNat), 0) by simp [Dsk.truncate0, h1, h2])
      have h3 : 0 ≤ size := by omega
      have h4 : size ≤ ((E.file f).1.length : Int) := by omega
      clear h1 h2
      go_enter Try.func33, Try.ntmps33
      go_wp2_with fail
      refine HC.out.mono ?_
      rintro e w1 ⟨rfl, h1⟩
      obtain ⟨F1, i1, k1⟩ := h1.ref
      have hm := rmay_c i1 f
      rw [H1.out] at hm
      have HM := Lib.hid hm
      have HG := Lib.hid (rget_c i1 f)
      have I1 := Lib.hid i1
      obtain ⟨x, i2, _⟩ := i1
      have HL := Lib.hid (i2.ok.lens f)
      have K1 := Lib.hid k1
      clear hm i2 k1 h1
      go_wp2_with fail
      refine HM.out.mono ?_
      rintro e w' ⟨rfl, rfl⟩
      go_wp2_with fail
      refine HG.out.mono ?_
      rintro e w2 ⟨rfl, hB⟩
      have O2 := Lib.hid (Only.of_below (F := NoF) hB (Nat.le_refl _))
      have HS := Lib.hid (rsettle_c (I1.out.only O2.out fun _ _ h => h) f ((E.file f).1.take size.toNat) HZ.out.2.1 HZ.out.2.2 (by have := HL.out.1; simp; omega))
      clear hB
      go_wp2_with fail
      refine HS.out.mono ?_
      rintro e w3 ⟨rfl, h3⟩
      have R3 := Lib.hid (K1.out _ _ (RefTo.trans (O2.out.mono fun _ h => h.elim) (fun _ hk => .inl hk) (fun _ hk => .inl hk) h3))
      clear h3
      go_wp2_with fail
      go_ret
      rw [Hp.out]
      exact ⟨rfl, R3.out⟩
  · have Hp := Lib.hid (show E.truncate0 f size = (E, E.may f) by simp [Dsk.truncate0, h1])
    have h2 : (E.may f != 0) = true := by simp [h1]
    clear h1
    go_enter Try.func33, Try.ntmps33
    go_wp2_with fail
    refine HC.out.mono ?_
    rintro e w1 ⟨rfl, h1⟩
    obtain ⟨F1, i1, k1⟩ := h1.ref
    have HM := Lib.hid (rmay_c i1 f)
    have R1 := Lib.hid h1
    clear i1 k1 h1
    go_wp2_with fail
    refine HM.out.mono ?_
    rintro e w' ⟨rfl, rfl⟩
    go_wp2_with fail
    go_ret
    rw [Hp.out]
    exact ⟨rfl, R1.out⟩
end
end Go.Proofs.Ytddmgkppefhlbaa
