/-
  DiskArms, walked: it returns true. No condition.
-/
import Derived.Test.YtddmgkppefhlbaaDskArms
namespace Go.Proofs.Ytddmgkppefhlbaa
set_option linter.unusedVariables false
set_option linter.unusedSimpArgs false
set_option linter.unusedSectionVars false
open Go.RowKit

set_option maxRecDepth 100000 in
set_option maxHeartbeats 1000000 in
theorem arms_out (W : World) {vl vk : Value} {l : List DAct} {keep : List Int} (hl : Acts (oldB W) W vl l) (n : Int) (hk : Ints (oldB W) W vk keep)
    (h : fewB l = false ∨ (fewB l = true ∧ 60 < keep.length) ∨ (fewB l = true ∧ keep.length ≤ 60 ∧ n < 1) ∨ (fewB l = true ∧ keep.length ≤ 60 ∧ 1 ≤ n ∧ 60 < n)) :
    Calls Try.prog 6 #[vl, .int .i64 n, vk] W (SmallTo W) := by
  have HL := Lib.hid hl
  obtain ⟨Ak, ck, rfl, k1, k2, _⟩ := hk.cells
  unfold maxLen at k2
  clear hl hk
  rcases h with h | ⟨h, h1⟩ | ⟨h, h1, h2⟩ | ⟨h, h1, h2, h3⟩
  all_goals
    have HF := Lib.hid h
    clear h
    go_enter Try.func6, Try.ntmps6
    go_wp2_with fail
    refine (small_c W).mono ?_
    rintro e w1 ⟨rfl, o1⟩
    have hfw := few_c (HL.out.only o1 fun _ _ h => h)
    rw [HF.out] at hfw
    have HFW := Lib.hid hfw
    have O1 := Lib.hid o1
    clear hfw o1
    go_wp2_with fail
    refine HFW.out.mono ?_
    rintro e w' ⟨rfl, rfl⟩
    go_wp2_with fail
    go_ret
    exact ⟨rfl, O1.out⟩

/-- what the rounds keep -/
def ArmRel (w1 : World) (d c : Nat) (n : Int) (keep : List Int) (k : Nat) (cnt : Int) (w : World) : Prop :=
  ∃ D C, Two w1 d D c C w ∧ 0 ≤ cnt ∧ cnt ≤ k ∧ ((cnt < n ∧ Dsk.Armed D C (n - cnt) keep) ∨ (n ≤ cnt ∧ Dsk.Fallen D C))

theorem ArmRel.only {w1 w : World} {d c : Nat} {n cnt : Int} {keep : List Int} {k : Nat} (h : ArmRel w1 d c n keep k cnt w) : Only NoF w1 w := by
  obtain ⟨D, C, h, _⟩ := h
  exact h.out

set_option maxRecDepth 100000 in
set_option maxHeartbeats 4000000 in
theorem arms_in (W : World) {vl vk : Value} {l : List DAct} {keep : List Int} (hl : Acts (oldB W) W vl l) (n : Int) (hk : Ints (oldB W) W vk keep)
    (h : fewB l = true) (h2 : keep.length ≤ 60) (hn1 : 1 ≤ n) (hn2 : n ≤ 60) :
    Calls Try.prog 6 #[vl, .int .i64 n, vk] W (SmallTo W) := by
  have HL := Lib.hid hl
  have HK := Lib.hid hk
  obtain ⟨Ak, ck, rfl, k1, k2, _⟩ := hk.cells
  unfold maxLen at k2
  obtain ⟨Am, cm, rfl, m1, m2, hmm⟩ := hl.formA
  unfold maxLen at m2
  have HM := Lib.hid hmm
  have HF := Lib.hid h
  have hfl := (fewB_mem h).2
  clear hl hk h hmm
  go_enter Try.func6, Try.ntmps6
  go_wp2_with fail
  refine (small_c W).mono ?_
  rintro e w1 ⟨rfl, o1⟩
  have hA1 := HL.out.only o1 fun _ _ h => h
  have hfw := few_c hA1
  rw [HF.out] at hfw
  have HFW := Lib.hid hfw
  have O1 := Lib.hid o1
  clear hfw o1 hA1
  go_wp2_with fail
  refine HFW.out.mono ?_
  rintro e w' ⟨rfl, rfl⟩
  go_wp2_with fail
  refine (dNew_c w1).mono ?_
  rintro e w2 ⟨d, rfl, n2⟩
  go_wp2_with fail
  refine (dNew_c w2).mono ?_
  rintro e w3 ⟨c, rfl, n3⟩
  have t3 := n2.two n3
  have hk3 := HK.out.only (O1.out.trans' t3.out) fun _ _ h => h
  have harm := t3.call (f := 27) (args := #[.pointer (some ⟨d, 0, none⟩), .int .i64 n, .slice Ak keep.length ck]) (u := .tuple #[]) (D' := Dsk.init.arm n keep) fun F i _ => dArm_c i n (by unfold I64; omega) hk3 (by omega)
  have HARM := Lib.hid harm
  clear n2 n3 t3 hk3 harm
  go_wp2_with fail
  refine HARM.out.mono ?_
  rintro e w4 ⟨rfl, t4⟩
  have HR := Lib.hid (show ArmRel w1 d c n keep 0 0 w4 from ⟨_, _, t4, by omega, by omega, .inl ⟨by omega, by rw [Int.sub_zero]; exact Dsk.Armed.init n keep (by omega)⟩⟩)
  clear t4
  go_wp2_with fail
  go_loopw [10, 11] (fun q i wr => ∃ (k : Nat) (cnt : Int), k ≤ l.length ∧ i = .int .i64 (k : Int) ∧ q = .int .i64 cnt ∧ ArmRel w1 d c n keep k cnt wr) (fun _ i _ => l.length - (intOf i).toNat)
  case atStart => exact ⟨0, 0, by omega, by go_num, rfl, HR.out⟩
  case round =>
    obtain ⟨k, cnt, hkm, rfl, rfl, D, C, hT, c0, c1, hph⟩ := hrel
    have HT := Lib.hid hT
    have HPH := Lib.hid hph
    have HO := Lib.hid (O1.out.trans' hT.out)
    clear hT hph
    by_cases hlt : k < l.length
    · obtain ⟨b, off, A, kc, rfl, g1, g2, g4, g5, g6, g7, hw⟩ := HM.out k hlt
      obtain ⟨g3, x0, x1, x2, x3, x4⟩ := hw _ HO.out
      have HW := Lib.hid hw
      have HSM := Lib.hid ((fewB_mem HF.out).1 _ (List.getElem_mem hlt))
      unfold maxLen at g2 g7
      have hb := bits_7 l[k].d
      clear hw
      by_cases hm4 : 4 < l[k].d % 8
      · clear g3
        go_wp2_with fail
        go_ret
        exact ⟨rfl, HO.out⟩
      · rcases HPH.out with ⟨hlt1, hArm⟩ | ⟨hge1, hFal⟩
        · have HA := Lib.hid hArm
          clear hArm
          by_cases hme : l[k].d % 8 = 4
          · obtain ⟨ha1, ha2⟩ := HA.out.lose l[k] hme
            generalize hr : (C.step l[k]).2 = r at ha2
            have HC1 := Lib.hid (HT.out.do_ l[k] g3 g6 HSM.out (fun j hj => Nat.lt_of_lt_of_le hj O1.out.size) ha2)
            have HRR := Lib.hid hr
            have HA1 := Lib.hid ha1
            rw [hme] at hb
            clear g3 ha1 ha2 hme hr
            go_wp2_with fail
            refine HC1.out.mono ?_
            rintro e w5 ⟨rfl, t5⟩
            obtain ⟨g3', y0, y1, y2, y3, y4⟩ := HW.out _ (O1.out.trans' t5.out)
            have HC2 := Lib.hid (t5.dor_ l[k] g3' g6 HSM.out (fun j hj => Nat.lt_of_lt_of_le hj O1.out.size) HRR.out)
            clear g3' t5
            go_wp2_with fail
            refine HC2.out.mono ?_
            rintro e w6 ⟨rfl, t6⟩
            have T6 := Lib.hid t6
            clear t6
            go_wp2_with fail
            go_roundw
            case rel => exact ⟨k + 1, cnt, by omega, by go_num, by go_num, _, _, T6.out, by omega, by omega, .inl ⟨hlt1, HA1.out⟩⟩
            case measure => simp [intOf]; omega
          · have hm3 : l[k].d % 8 < 4 := by omega
            by_cases hlast : cnt + 1 < n
            · obtain ⟨ha1, ha2⟩ := HA.out.on l[k] hm3 (by omega)
              generalize hr : (C.step l[k]).2 = r at ha2
              have HC1 := Lib.hid (HT.out.do_ l[k] g3 g6 HSM.out (fun j hj => Nat.lt_of_lt_of_le hj O1.out.size) ha2)
              have HRR := Lib.hid hr
              have HA1 := Lib.hid ha1
              clear g3 ha1 ha2 hme hr
              go_wp2_with fail
              refine HC1.out.mono ?_
              rintro e w5 ⟨rfl, t5⟩
              obtain ⟨g3', y0, y1, y2, y3, y4⟩ := HW.out _ (O1.out.trans' t5.out)
              have HC2 := Lib.hid (t5.dor_ l[k] g3' g6 HSM.out (fun j hj => Nat.lt_of_lt_of_le hj O1.out.size) HRR.out)
              clear g3' t5
              go_wp2_with fail
              refine HC2.out.mono ?_
              rintro e w6 ⟨rfl, t6⟩
              have T6 := Lib.hid t6
              clear t6
              go_wp2_with fail
              go_roundw
              case rel => exact ⟨k + 1, cnt + 1, by omega, by go_num, by go_num, _, _, T6.out, by omega, by omega, .inl ⟨hlast, by rw [show n - (cnt + 1) = n - cnt - 1 by omega]; exact HA1.out⟩⟩
              case measure => simp [intOf]; omega
            · obtain rfl : n = cnt + 1 := by omega
              have hA1 := HA.out
              rw [show cnt + 1 - cnt = 1 by omega] at hA1
              obtain ⟨hf1, hf2, hf3⟩ := hA1.falls l[k] hm3
              have HC1 := Lib.hid (HT.out.do_ l[k] g3 g6 HSM.out (fun j hj => Nat.lt_of_lt_of_le hj O1.out.size) hf1)
              have hne4 : (l[k].d % 8 == 4) = false := by simp; omega
              by_cases hm2 : l[k].d % 8 < 2
              · have HFA := Lib.hid (hf2 hm2)
                clear g3 hme hf1 hf2 hf3 hA1
                go_wp2_with fail
                refine HC1.out.mono ?_
                rintro e w5 ⟨rfl, t5⟩
                obtain ⟨g3', y0, y1, y2, y3, y4⟩ := HW.out _ (O1.out.trans' t5.out)
                have HC2 := Lib.hid (t5.dor_ l[k] g3' g6 HSM.out (fun j hj => Nat.lt_of_lt_of_le hj O1.out.size) rfl)
                clear g3' t5
                go_wp2_with fail
                refine HC2.out.mono ?_
                rintro e w6 ⟨rfl, t6⟩
                have HC3 := Lib.hid (t6.swap.crash_ (HK.out.only (O1.out.trans' t6.out) fun _ _ h => h) (by omega) (fun j hj => .inl (Nat.lt_of_lt_of_le hj O1.out.size)) rfl)
                clear t6
                go_wp2_with fail
                refine HC3.out.mono ?_
                rintro e w7 ⟨rfl, t7⟩
                have T7 := Lib.hid t7.swap
                have HDN := Lib.hid (t7.second.down_ HFA.out.down)
                clear t7
                go_wp2_with fail
                refine HDN.out.mono ?_
                rintro e w' ⟨rfl, rfl⟩
                go_wp2_with fail
                go_roundw
                case rel => exact ⟨k + 1, cnt + 1, by omega, by go_num, by go_num, _, _, T7.out, by omega, by omega, .inr ⟨by omega, HFA.out⟩⟩
                case measure => simp [intOf]; omega
              · have HFA := Lib.hid (hf3 hm2)
                clear g3 hme hf1 hf2 hf3 hA1
                go_wp2_with fail
                refine HC1.out.mono ?_
                rintro e w5 ⟨rfl, t6⟩
                have HC3 := Lib.hid (t6.swap.crash_ (HK.out.only (O1.out.trans' t6.out) fun _ _ h => h) (by omega) (fun j hj => .inl (Nat.lt_of_lt_of_le hj O1.out.size)) rfl)
                clear t6
                go_wp2_with fail
                refine HC3.out.mono ?_
                rintro e w7 ⟨rfl, t7⟩
                have T7 := Lib.hid t7.swap
                have HDN := Lib.hid (t7.second.down_ HFA.out.down)
                clear t7
                go_wp2_with fail
                refine HDN.out.mono ?_
                rintro e w' ⟨rfl, rfl⟩
                go_wp2_with fail
                go_roundw
                case rel => exact ⟨k + 1, cnt + 1, by omega, by go_num, by go_num, _, _, T7.out, by omega, by omega, .inr ⟨by omega, HFA.out⟩⟩
                case measure => simp [intOf]; omega
        · by_cases hme : l[k].d % 8 = 4
          · have HFA := Lib.hid (hFal.lose l[k] hme)
            have HC1 := Lib.hid (HT.out.do_ l[k] g3 g6 HSM.out (fun j hj => Nat.lt_of_lt_of_le hj O1.out.size) rfl)
            rw [hme] at hb
            clear g3 hFal hme
            by_cases hcn : cnt = n
            · subst hcn
              go_wp2_with fail
              refine HC1.out.mono ?_
              rintro e w5 ⟨rfl, t5⟩
              have HDN := Lib.hid (t5.first.down_ HFA.out.down)
              have T5 := Lib.hid t5
              clear t5
              go_wp2_with fail
              refine HDN.out.mono ?_
              rintro e w' ⟨rfl, rfl⟩
              go_wp2_with fail
              refine HDN.out.mono ?_
              rintro e w' ⟨rfl, rfl⟩
              go_wp2_with fail
              go_roundw
              case rel => exact ⟨k + 1, cnt, by omega, by go_num, by go_num, _, _, T5.out, by omega, by omega, .inr ⟨by omega, HFA.out⟩⟩
              case measure => simp [intOf]; omega
            · have hcb : (cnt == n) = false := by simpa using hcn
              have hcl : ¬ cnt < n := by omega
              clear hcn
              go_wp2_with fail
              refine HC1.out.mono ?_
              rintro e w5 ⟨rfl, t5⟩
              have HDN := Lib.hid (t5.first.down_ HFA.out.down)
              have T5 := Lib.hid t5
              clear t5
              go_wp2_with fail
              refine HDN.out.mono ?_
              rintro e w' ⟨rfl, rfl⟩
              go_wp2_with fail
              go_roundw
              case rel => exact ⟨k + 1, cnt, by omega, by go_num, by go_num, _, _, T5.out, by omega, by omega, .inr ⟨by omega, HFA.out⟩⟩
              case measure => simp [intOf]; omega
          · have hm3 : l[k].d % 8 < 4 := by omega
            obtain ⟨hf1, hf2⟩ := hFal.on l[k] hm3
            have HFA := Lib.hid hf2
            have HC1 := Lib.hid (HT.out.do_ l[k] g3 g6 HSM.out (fun j hj => Nat.lt_of_lt_of_le hj O1.out.size) hf1)
            have hcb : (cnt + 1 == n) = false := by simp; omega
            have hcl : ¬ cnt + 1 < n := by omega
            clear g3 hFal hme hf1 hf2
            go_wp2_with fail
            refine HC1.out.mono ?_
            rintro e w5 ⟨rfl, t5⟩
            have HDN := Lib.hid (t5.first.down_ HFA.out.down)
            have T5 := Lib.hid t5
            clear t5
            go_wp2_with fail
            refine HDN.out.mono ?_
            rintro e w' ⟨rfl, rfl⟩
            go_wp2_with fail
            go_roundw
            case rel => exact ⟨k + 1, cnt + 1, by omega, by go_num, by go_num, _, _, T5.out, by omega, by omega, .inr ⟨by omega, HFA.out⟩⟩
            case measure => simp [intOf]; omega
    · obtain rfl : k = l.length := by omega
      have hlike : Dsk.Like D C := by
        rcases HPH.out with ⟨_, h⟩ | ⟨_, h⟩
        · exact h.like
        · exact h.like
      have HLK := Lib.hid hlike
      have HS := Lib.hid (same_c HT.out hlike (HL.out.only HO.out fun _ _ h => h))
      clear hlike
      go_wp2_with fail
      refine HS.out.mono ?_
      rintro e w5 ⟨rfl, o5⟩
      have t5 := HT.out.keep o5
      have T5 := Lib.hid (t5.start_ rfl)
      clear o5 t5
      go_wp2_with fail
      refine T5.out.mono ?_
      rintro e w6 ⟨rfl, t6⟩
      have T6 := Lib.hid (t6.swap.start_ rfl)
      clear t6
      go_wp2_with fail
      refine T6.out.mono ?_
      rintro e w7 ⟨rfl, t7⟩
      have HO7 := Lib.hid (O1.out.trans' t7.out)
      have HS7 := Lib.hid (same_c t7.swap HLK.out.start (HL.out.only HO7.out fun _ _ h => h))
      clear t7
      go_wp2_with fail
      refine HS7.out.mono ?_
      rintro e w8 ⟨rfl, o8⟩
      have HO8 := Lib.hid (HO7.out.trans' o8)
      clear o8
      go_wp2_with fail
      go_ret
      exact ⟨rfl, HO8.out⟩

theorem arms_c (W : World) {vl vk : Value} {l : List DAct} {keep : List Int} (hl : Acts (oldB W) W vl l) (n : Int) (hn : I64 n) (hk : Ints (oldB W) W vk keep) :
    Calls Try.prog 6 #[vl, .int .i64 n, vk] W (SmallTo W) := by
  cases h : fewB l with
  | false => exact arms_out W hl n hk (.inl h)
  | true =>
    by_cases h2 : keep.length ≤ 60
    · by_cases h3 : 1 ≤ n
      · by_cases h4 : n ≤ 60
        · exact arms_in W hl n hk h h2 h3 h4
        · exact arms_out W hl n hk (.inr (.inr (.inr ⟨h, h2, h3, by omega⟩)))
      · exact arms_out W hl n hk (.inr (.inr (.inl ⟨h, h2, by omega⟩)))
    · exact arms_out W hl n hk (.inr (.inl ⟨h, by omega⟩))
end Go.Proofs.Ytddmgkppefhlbaa
