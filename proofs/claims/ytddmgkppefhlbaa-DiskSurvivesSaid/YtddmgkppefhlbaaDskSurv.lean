/-
  DiskSurvives, walked: it returns true. No condition.
-/
import Derived.Test.YtddmgkppefhlbaaDskArms
import Derived.Test.YtddmgkppefhlbaaTidy
namespace Go.Proofs.Ytddmgkppefhlbaa
set_option linter.unusedVariables false
set_option linter.unusedSimpArgs false
set_option linter.unusedSectionVars false
open Go.RowKit

theorem quiet_add_left {P : Program} {f : FuncId} {args : Array Value} {w : World} {a n : Nat} {v : Value}
    (h : Calls P f args (w.drewN (a + n)) fun e w' => e = .returned v ∧ w.drewN (a + n) = w') :
    Calls P f args (w.drewN (a + n)) fun e w'' => e = .returned v ∧ ∃ m, w'' = w.drewN (a + m) :=
  h.mono fun _ _ ⟨he, hm⟩ => ⟨he, n, hm.symm⟩

theorem surv_plain {D : Dsk} (hok : D.Ok) (ht : D.Tidy) (hd : D.down = false) {f : Int} (f0 : 0 ≤ f) (f1 : f ≤ 15) (hsz : D.size f ≤ 100000) (keep : List Int) :
    ∃ now last some_ : Str, D.read f 0 16777216 = (now, 0) ∧ (D.crash []).start.read f 0 16777216 = (last, 0) ∧ (D.crash [1]).start.read f 0 16777216 = (now, 0) ∧ (D.crash keep).start.read f 0 16777216 = (some_, 0) ∧
      last.length ≤ some_.length ∧ some_.length ≤ now.length ∧ now.length ≤ 100000 ∧ ∀ n : Nat, (∀ j : Nat, j / 64 = n → some_.getD j 0 = now.getD j 0) ∨ (∀ j : Nat, j / 64 = n → some_.getD j 0 = last.getD j 0) := by
  have key : ∀ kp : List Int, (D.crash kp).start.read f 0 16777216 = ((Dsk.crashF kp 0 D.queue D.file f).2, 0) := fun kp => by
    rw [Dsk.read_all rfl f0 (by omega) (hok.crash kp).start]
    show (((D.crash kp).file f).1, (0 : Int)) = _
    rw [(Dsk.crash_up kp hd f).1]
  obtain ⟨s1, s2, s3⟩ := Dsk.crash_some ht hok keep f
  refine ⟨(D.file f).1, (D.file f).2, (Dsk.crashF keep 0 D.queue D.file f).2, Dsk.read_all hd f0 (by omega) hok, ?_, ?_, key keep, s1, s2, hsz, s3⟩
  · rw [key, Dsk.crash_none]
  · rw [key, Dsk.crash_all ht hok]

set_option maxRecDepth 100000 in
set_option maxHeartbeats 1000000 in
theorem surv_out (W : World) {vl vk : Value} {l : List DAct} {keep : List Int} (hl : Acts (oldB W) W vl l) (f : Int) (hk : Ints (oldB W) W vk keep)
    (h : fewB l = false ∨ (fewB l = true ∧ 60 < keep.length)) :
    Calls Try.prog 4 #[vl, .int .i64 f, vk] W (SmallTo W) := by
  have HL := Lib.hid hl
  obtain ⟨Ak, ck, rfl, k1, k2, _⟩ := hk.cells
  unfold maxLen at k2
  clear hl hk
  rcases h with h | ⟨h, h1⟩
  all_goals
    have HF := Lib.hid h
    clear h
    go_enter Try.func4, Try.ntmps4
    go_wp2_with fail
    refine (small_c W).mono ?_
    rintro e w1 ⟨rfl, o1⟩
    have hfw := few_c (HL.out.only o1 fun _ _ h => h)
    rw [HF.out] at hfw
    have HFW := Lib.hid hfw
    have O1 := Lib.hid o1
    clear hfw o1
    go_wp2_with fail
    refine HFW.out.mono ?_
    rintro e w' ⟨rfl, rfl⟩
    go_wp2_with fail
    go_ret
    exact ⟨rfl, O1.out⟩

set_option maxRecDepth 100000 in
set_option maxHeartbeats 1000000 in
theorem surv_no (W : World) {vl vk : Value} {l : List DAct} {keep : List Int} (hl : Acts (oldB W) W vl l) (f : Int) (hk : Ints (oldB W) W vk keep) (h : fewB l = true) (h2 : keep.length ≤ 60)
    (h3 : (Dsk.init.steps l).down = true ∨ ((Dsk.init.steps l).down = false ∧ f < 0) ∨ ((Dsk.init.steps l).down = false ∧ 0 ≤ f ∧ 15 < f) ∨ ((Dsk.init.steps l).down = false ∧ 0 ≤ f ∧ f ≤ 15 ∧ 100000 < (Dsk.init.steps l).size f)) :
    Calls Try.prog 4 #[vl, .int .i64 f, vk] W (SmallTo W) := by
  have HL := Lib.hid hl
  obtain ⟨Ak, ck, rfl, k1, k2, _⟩ := hk.cells
  unfold maxLen at k2
  have HF := Lib.hid h
  clear hl hk h
  generalize hsz : (Dsk.init.steps l).size f = sz at h3
  have HSZ := Lib.hid hsz
  clear hsz
  rcases h3 with h | ⟨h, h4⟩ | ⟨h, h4, h5⟩ | ⟨h, h4, h5, h6⟩
  all_goals
    have HD := Lib.hid h
    clear h
    go_enter Try.func4, Try.ntmps4
    go_wp2_with fail
    refine (small_c W).mono ?_
    rintro e w1 ⟨rfl, o1⟩
    have hA1 := HL.out.only o1 fun _ _ h => h
    have hfw := few_c hA1
    rw [HF.out] at hfw
    have HFW := Lib.hid hfw
    have O1 := Lib.hid o1
    have HP := Lib.hid (played_c hA1 (fun k hk => Nat.lt_of_lt_of_le hk o1.size) (fewB_mem HF.out).1)
    clear hfw o1 hA1
    go_wp2_with fail
    refine HFW.out.mono ?_
    rintro e w' ⟨rfl, rfl⟩
    go_wp2_with fail
    refine HP.out.mono ?_
    rintro e w2 ⟨d, rfl, n2⟩
    have N2 := Lib.hid n2
    clear n2
    go_wp2_with fail
    refine (N2.out.down_ HD.out).mono ?_
    rintro e w' ⟨rfl, rfl⟩
    go_wp2_with (go_at_call 16; refine (N2.out.size_ f HSZ.out).mono ?_; rintro e w' ⟨rfl, rfl⟩)
    go_ret
    obtain ⟨_, _, o2, _⟩ := N2.out
    exact ⟨rfl, O1.out.trans' o2⟩

theorem NewDisk.after_ {w0 w : World} {d : Nat} {D : Dsk} {v : Value} {S : Nat → Prop} (h : NewDisk w0 d D w) (f : Int) {keep : List Int} (hk : Ints S w v keep) (hS : ∀ k, S k → k < w.heap.size) (hl : keep.length ≤ 1000) {s : Str}
    (hr : (D.crash keep).start.read f 0 16777216 = (s, 0)) : Calls Try.prog 23 #[.pointer (some ⟨d, 0, none⟩), .int .i64 f, v] w fun e w' => e = .returned (.tuple #[strV s, .bool true]) ∧ NewDisk w0 d D w' := by
  obtain ⟨F, i, o, f1⟩ := h
  refine (after_c i f hk hS hl).mono ?_
  rw [hr]
  rintro e w' ⟨rfl, o1⟩
  exact ⟨rfl, F, i.only o1 fun _ _ h => h, o.trans' o1, f1⟩

set_option maxRecDepth 100000 in
set_option maxHeartbeats 4000000 in
theorem surv_yes (W : World) {vl vk : Value} {l : List DAct} {keep : List Int} (hl : Acts (oldB W) W vl l) (f : Int) (hk : Ints (oldB W) W vk keep) (h : fewB l = true) (h2 : keep.length ≤ 60)
    (h3 : (Dsk.init.steps l).down = false) (h4 : 0 ≤ f) (h5 : f ≤ 15) (h6 : (Dsk.init.steps l).size f ≤ 100000) :
    Calls Try.prog 4 #[vl, .int .i64 f, vk] W (SmallTo W) := by
  have hok : (Dsk.init.steps l).Ok := Dsk.init_ok.steps fun x hx => ⟨hl.ns x hx, ((fewB_mem h).1 x hx).2.1⟩
  obtain ⟨now, last, some_, q1, q2, q3, q4, l1, l2, l3, q5⟩ := surv_plain hok (Dsk.Tidy.init.steps l) h3 h4 h5 h6 keep
  generalize hsz : (Dsk.init.steps l).size f = sz at h6
  have HSZ := Lib.hid hsz
  have Q1 := Lib.hid q1
  have Q2 := Lib.hid q2
  have Q3 := Lib.hid q3
  have Q4 := Lib.hid q4
  have Q5 := Lib.hid q5
  have HL := Lib.hid hl
  have HK := Lib.hid hk
  obtain ⟨Ak, ck, rfl, k1, k2, _⟩ := hk.cells
  unfold maxLen at k2
  have HF := Lib.hid h
  have HD := Lib.hid h3
  clear hl hk h hsz q1 q2 q3 q4 q5 h3 hok
  go_enter Try.func4, Try.ntmps4
  go_wp2_with fail
  refine (small_c W).mono ?_
  rintro e w1 ⟨rfl, o1⟩
  have hA1 := HL.out.only o1 fun _ _ h => h
  have hfw := few_c hA1
  rw [HF.out] at hfw
  have HFW := Lib.hid hfw
  have O1 := Lib.hid o1
  have HP := Lib.hid (played_c hA1 (fun k hk => Nat.lt_of_lt_of_le hk o1.size) (fewB_mem HF.out).1)
  clear hfw o1 hA1
  go_wp2_with fail
  refine HFW.out.mono ?_
  rintro e w' ⟨rfl, rfl⟩
  go_wp2_with fail
  refine HP.out.mono ?_
  rintro e w2 ⟨d, rfl, n2⟩
  have N2 := Lib.hid n2
  clear n2
  go_wp2_with fail
  refine (N2.out.down_ HD.out).mono ?_
  rintro e w' ⟨rfl, rfl⟩
  go_wp2_with fail
  refine (N2.out.size_ f HSZ.out).mono ?_
  rintro e w' ⟨rfl, rfl⟩
  go_wp2_with fail
  refine (N2.out.read_ f 0 16777216 Q1.out (by unfold I64; omega) (by unfold I64; omega)).mono ?_
  rintro e w' ⟨rfl, rfl⟩
  go_wp2_with fail
  refine (N2.out.after_ f (SliceOf.nil_ RInt 1 w2 (S := NoF)) (fun _ h => h.elim) (by simp) Q2.out).mono ?_
  rintro e w3 ⟨rfl, n3⟩
  have N3 := Lib.hid n3
  clear n3
  go_wp2_with fail
  refine ((N3.out.alloc_ (.cells #[.int .i64 1] 3)).after_ f (ints_new w3 [1] (by decide) (by simp [I64])) (fun k hk => by rw [hk]; simp) (by decide) Q3.out).mono ?_
  rintro e w4 ⟨rfl, n4⟩
  have N4 := Lib.hid n4
  have O4 := Lib.hid (show Only NoF W w4 by obtain ⟨_, _, o4, _⟩ := n4; exact O1.out.trans' o4)
  have HA4 := Lib.hid (N4.out.after_ f (HK.out.only O4.out fun _ _ h => h) (fun k hk => Nat.lt_of_lt_of_le hk O4.out.size) (by omega) Q4.out)
  clear n4
  go_wp2_with fail
  refine HA4.out.mono ?_
  rintro e w5 ⟨rfl, n5⟩
  have O5 := Lib.hid (show Only NoF W w5 by obtain ⟨_, _, o5, _⟩ := n5; exact O1.out.trans' o5)
  clear n5
  have d1 : decide (some_.length < last.length) = false := by simp; omega
  have d2 : decide (now.length < some_.length) = false := by simp; omega
  go_wp2_with fail
  clear d1 d2
  go_loopw [17] (fun n wr => ∃ k : Nat, 64 * k ≤ some_.length + 64 ∧ n = .int .i64 (k : Int) ∧ Only NoF W wr) (fun n _ => some_.length + 64 - 64 * (intOf n).toNat)
  case atStart => exact ⟨0, by omega, by go_num, O5.out⟩
  case round =>
    obtain ⟨k, hk, rfl, ho⟩ := hrel
    have HO := Lib.hid ho
    clear ho
    by_cases hlt : 64 * k < some_.length
    · have d3 : decide (64 * (k : Int) < (some_.length : Int)) = true := by simp; omega
      rcases Q5.out k with hc | hc
      · have HC := Lib.hid hc
        clear hc
        go_wp2_with fail
        obtain ⟨wo, rfl⟩ : ∃ wo : World, wo = wr := ⟨_, rfl⟩
        go_loopw [18, 19, 20] (fun x y i wr => ∃ (j : Nat) (z : Bool), 64 * k ≤ j ∧ j ≤ 64 * k + 64 ∧ x = .bool true ∧ y = .bool z ∧ i = .int .i64 (j : Int) ∧ Only NoF W wr) (fun _ _ i _ => 64 * k + 64 - (intOf i).toNat)
        case atStart => exact ⟨64 * k, true, by omega, by omega, rfl, rfl, by go_num, HO.out⟩
        case round =>
          obtain ⟨j, z, hj1, hj2, rfl, rfl, rfl, ho2⟩ := hrel
          have HO2 := Lib.hid ho2
          clear ho2
          by_cases hja : j < 64 * k + 64
          · by_cases hjb : j < some_.length
            · have hjn : j < now.length := by omega
              obtain ⟨bb, hbb⟩ : ∃ bb, last.getD j 0 = bb := ⟨_, rfl⟩
              have e1 : some_[j] = now[j] := by
                have := HC.out j (by omega)
                simpa [List.getD_eq_getElem?_getD, List.getElem?_eq_getElem hjb, List.getElem?_eq_getElem hjn] using this
              have e2 : ((((ByteArray.mk some_.toArray)[j]'hjb).toNat : Int) == (((ByteArray.mk now.toArray)[j]'hjn).toNat : Int)) = true := by
                have a1 : (ByteArray.mk some_.toArray)[j]'hjb = some_[j] := rfl
                have a2 : (ByteArray.mk now.toArray)[j]'hjn = now[j] := rfl
                rw [a1, a2, e1]
                simp
              clear e1
              have HB := Lib.hid (fun n : Nat => (by have := byteAt_c (w := wr.drewN n) last j (by omega) (by omega); rw [hbb] at this; exact this : Calls Try.prog 24 #[strV last, .int .i64 (j : Int)] (wr.drewN n) fun e w' => e = .returned (.int .u8 bb.toNat) ∧ wr.drewN n = w'))
              clear hbb
              cases z with
              | true =>
                go_wp2_with fail
                go_quiet (fail)
                go_wp2_with fail
                go_quiet ((go_at_call 24; first | with_reducible exact quiet_left (HB.out _) | with_reducible exact quiet_add_left (HB.out _)))
                go_wp2_with fail
                go_roundw
                case rel => exact ⟨j + 1, _, by omega, by omega, rfl, rfl, by go_num, HO2.out.drewN _⟩
                case measure => simp [intOf]; omega
              | false =>
                go_wp2_with fail
                go_quiet (fail)
                go_wp2_with fail
                go_quiet ((go_at_call 24; first | with_reducible exact quiet_left (HB.out _) | with_reducible exact quiet_add_left (HB.out _)))
                go_wp2_with fail
                go_roundw
                case rel => exact ⟨j + 1, _, by omega, by omega, rfl, rfl, by go_num, HO2.out.drewN _⟩
                case measure => simp [intOf]; omega
            · go_wp2_with fail
              all_goals
                go_roundw
                case rel => exact ⟨k + 1, by omega, by go_num, HO2.out⟩
                case measure => simp [intOf]; omega
          · go_wp2_with fail
            all_goals
              go_roundw
              case rel => exact ⟨k + 1, by omega, by go_num, HO2.out⟩
              case measure => simp [intOf]; omega
      · have HC := Lib.hid hc
        clear hc
        go_wp2_with fail
        obtain ⟨wo, rfl⟩ : ∃ wo : World, wo = wr := ⟨_, rfl⟩
        go_loopw [18, 19, 20] (fun x y i wr => ∃ (j : Nat) (z : Bool), 64 * k ≤ j ∧ j ≤ 64 * k + 64 ∧ x = .bool z ∧ y = .bool true ∧ i = .int .i64 (j : Int) ∧ Only NoF W wr) (fun _ _ i _ => 64 * k + 64 - (intOf i).toNat)
        case atStart => exact ⟨64 * k, true, by omega, by omega, rfl, rfl, by go_num, HO.out⟩
        case round =>
          obtain ⟨j, z, hj1, hj2, rfl, rfl, rfl, ho2⟩ := hrel
          have HO2 := Lib.hid ho2
          clear ho2
          by_cases hja : j < 64 * k + 64
          · by_cases hjb : j < some_.length
            · have hjn : j < now.length := by omega
              obtain ⟨bb, hbb⟩ : ∃ bb, last.getD j 0 = bb := ⟨_, rfl⟩
              have e1 : some_[j] = bb := by
                have := HC.out j (by omega)
                rw [hbb] at this
                simpa [List.getD_eq_getElem?_getD, List.getElem?_eq_getElem hjb] using this
              have e2 : ((((ByteArray.mk some_.toArray)[j]'hjb).toNat : Int) == (bb.toNat : Int)) = true := by
                have a1 : (ByteArray.mk some_.toArray)[j]'hjb = some_[j] := rfl
                rw [a1, e1]
                simp
              clear e1
              have HB := Lib.hid (fun n : Nat => (by have := byteAt_c (w := wr.drewN n) last j (by omega) (by omega); rw [hbb] at this; exact this : Calls Try.prog 24 #[strV last, .int .i64 (j : Int)] (wr.drewN n) fun e w' => e = .returned (.int .u8 bb.toNat) ∧ wr.drewN n = w'))
              clear hbb
              cases z with
              | true =>
                go_wp2_with fail
                go_quiet (fail)
                go_wp2_with fail
                go_quiet ((go_at_call 24; first | with_reducible exact quiet_left (HB.out _) | with_reducible exact quiet_add_left (HB.out _)))
                go_wp2_with fail
                go_roundw
                case rel => exact ⟨j + 1, _, by omega, by omega, rfl, rfl, by go_num, HO2.out.drewN _⟩
                case measure => simp [intOf]; omega
              | false =>
                go_wp2_with fail
                go_quiet (fail)
                go_wp2_with fail
                go_quiet ((go_at_call 24; first | with_reducible exact quiet_left (HB.out _) | with_reducible exact quiet_add_left (HB.out _)))
                go_wp2_with fail
                go_roundw
                case rel => exact ⟨j + 1, _, by omega, by omega, rfl, rfl, by go_num, HO2.out.drewN _⟩
                case measure => simp [intOf]; omega
            · go_wp2_with fail
              all_goals
                go_roundw
                case rel => exact ⟨k + 1, by omega, by go_num, HO2.out⟩
                case measure => simp [intOf]; omega
          · go_wp2_with fail
            all_goals
              go_roundw
              case rel => exact ⟨k + 1, by omega, by go_num, HO2.out⟩
              case measure => simp [intOf]; omega
    · go_wp2_with fail
      go_ret
      exact ⟨rfl, HO.out⟩

theorem surv_c (W : World) {vl vk : Value} {l : List DAct} {keep : List Int} (hl : Acts (oldB W) W vl l) (f : Int) (hf : I64 f) (hk : Ints (oldB W) W vk keep) :
    Calls Try.prog 4 #[vl, .int .i64 f, vk] W (SmallTo W) := by
  cases h : fewB l with
  | false => exact surv_out W hl f hk (.inl h)
  | true =>
    by_cases h2 : keep.length ≤ 60
    · cases h3 : (Dsk.init.steps l).down with
      | true => exact surv_no W hl f hk h h2 (.inl h3)
      | false =>
        by_cases h4 : f < 0
        · exact surv_no W hl f hk h h2 (.inr (.inl ⟨h3, h4⟩))
        by_cases h5 : 15 < f
        · exact surv_no W hl f hk h h2 (.inr (.inr (.inl ⟨h3, by omega, h5⟩)))
        by_cases h6 : 100000 < (Dsk.init.steps l).size f
        · exact surv_no W hl f hk h h2 (.inr (.inr (.inr ⟨h3, by omega, by omega, h6⟩)))
        exact surv_yes W hl f hk h h2 h3 (by omega) (by omega) (by omega)
    · exact surv_out W hl f hk (.inr ⟨h, by omega⟩)
end Go.Proofs.Ytddmgkppefhlbaa
