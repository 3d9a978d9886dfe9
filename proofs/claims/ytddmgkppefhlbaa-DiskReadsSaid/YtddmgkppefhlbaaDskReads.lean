/-
  DiskReads, walked: it returns true. No condition.
-/
import Derived.Test.YtddmgkppefhlbaaDskL4
import Derived.Test.YtddmgkppefhlbaaOpen
namespace Go.Proofs.Ytddmgkppefhlbaa
set_option linter.unusedVariables false
set_option linter.unusedSimpArgs false
set_option linter.unusedSectionVars false
open Go.RowKit

theorem wp_small {W w1 : World} {e : Ending} (h : SmallTo W e w1) : e = .returned (.bool true) ∧ Only NoF W w1 := h

theorem fewB_le {l : List DAct} (h : fewB l = true) : ∀ a ∈ l, a.small := (fewB_mem h).1

set_option maxRecDepth 100000 in
set_option maxHeartbeats 1000000 in
theorem reads_out (W : World) {vl : Value} {l : List DAct} (hl : Acts (oldB W) W vl l) (f a : Int) (s : Str) (size : Int)
    (h : fewB l = false ∨ (fewB l = true ∧ 300 < s.length) ∨ (fewB l = true ∧ s.length ≤ 300 ∧ a < 0) ∨ (fewB l = true ∧ s.length ≤ 300 ∧ 0 ≤ a ∧ 3000 < a) ∨ (fewB l = true ∧ s.length ≤ 300 ∧ 0 ≤ a ∧ a ≤ 3000 ∧ size < 0)) :
    Calls Try.prog 7 #[vl, .int .i64 f, .int .i64 a, strV s, .int .i64 size] W (SmallTo W) := by
  have HL := Lib.hid hl
  clear hl
  rcases h with h | ⟨h, h1⟩ | ⟨h, h1, h2⟩ | ⟨h, h1, h2, h3⟩ | ⟨h, h1, h2, h3, h4⟩
  all_goals
    have HF := Lib.hid h
    clear h
    go_enter Try.func7, Try.ntmps7
    go_wp2_with fail
    refine (small_c W).mono ?_
    rintro e w1 ⟨rfl, o1⟩
    have hfw := few_c (HL.out.only o1 fun _ _ h => h)
    rw [HF.out] at hfw
    have HFW := Lib.hid hfw
    have O1 := Lib.hid o1
    clear hfw o1
    go_wp2_with fail
    refine HFW.out.mono ?_
    rintro e w' ⟨rfl, rfl⟩
    go_wp2_with fail
    go_ret
    exact ⟨rfl, O1.out⟩

set_option maxRecDepth 100000 in
set_option maxHeartbeats 1000000 in
theorem reads_no (W : World) {vl : Value} {l : List DAct} (hl : Acts (oldB W) W vl l) (f a : Int) (s : Str) (size : Int) (h : fewB l = true) (h1 : s.length ≤ 300) (h2 : 0 ≤ a) (h3 : a ≤ 3000) (h4 : 0 ≤ size)
    (h5 : (Dsk.init.steps l).down = true ∨ ((Dsk.init.steps l).down = false ∧ f < 0) ∨ ((Dsk.init.steps l).down = false ∧ 0 ≤ f ∧ 15 < f)) :
    Calls Try.prog 7 #[vl, .int .i64 f, .int .i64 a, strV s, .int .i64 size] W (SmallTo W) := by
  have HL := Lib.hid hl
  clear hl
  have HF := Lib.hid h
  clear h
  have hw : (((Dsk.init.steps l).arm 0 []).write f a s).2 ≠ 0 := Dsk.write_no rfl (by
    rcases h5 with h | h | h
    · exact .inl h
    · exact .inr (.inl h.2)
    · exact .inr (.inr (by omega)))
  have hwb : (((((Dsk.init.steps l).arm 0 []).write f a s).2) != 0) = true := by simpa using hw
  generalize hr : (((Dsk.init.steps l).arm 0 []).write f a s).2 = r at hw hwb
  have HR := Lib.hid hr
  clear hr
  rcases h5 with h | ⟨h, h5⟩ | ⟨h, h5, h6⟩
  all_goals
    have HD := Lib.hid (show ((Dsk.init.steps l).arm 0 []).down = _ from h)
    clear h
    go_enter Try.func7, Try.ntmps7
    go_wp2_with fail
    refine (small_c W).mono ?_
    rintro e w1 ⟨rfl, o1⟩
    have hA1 := HL.out.only o1 fun _ _ h => h
    have hfw := few_c hA1
    rw [HF.out] at hfw
    have HFW := Lib.hid hfw
    have O1 := Lib.hid o1
    have HP := Lib.hid (played_c hA1 (fun k hk => Nat.lt_of_lt_of_le hk o1.size) (fewB_le HF.out))
    clear hfw o1 hA1
    go_wp2_with fail
    refine HFW.out.mono ?_
    rintro e w' ⟨rfl, rfl⟩
    go_wp2_with fail
    refine HP.out.mono ?_
    rintro e w2 ⟨d, rfl, n2⟩
    go_wp2_with fail
    refine (n2.arm_ 0 (by unfold I64; omega) (SliceOf.nil_ RInt 1 w2 (S := NoF)) (by simp) rfl).mono ?_
    rintro e w3 ⟨rfl, n3⟩
    go_wp2_with fail
    refine (n3.down_ HD.out).mono ?_
    rintro e w' ⟨rfl, rfl⟩
    go_wp2_with fail
    refine (n3.write_ f a s HR.out rfl (by unfold I64; omega) (by omega)).mono ?_
    rintro e w4 ⟨rfl, n4⟩
    have O4 := Lib.hid n4
    clear n4
    go_wp2_with fail
    go_ret
    obtain ⟨_, _, o4, _⟩ := O4.out
    exact ⟨rfl, O1.out.trans' o4⟩

theorem reads_plain {D : Dsk} (hok : D.Ok) (hd : D.down = false) (ha0 : D.armed = 0) {f a size : Int} {s : Str} (f0 : 0 ≤ f) (f1 : f ≤ 15) (h1 : s.length ≤ 300) (h2 : 0 ≤ a) (h3 : a ≤ 3000) (h4 : 0 ≤ size) :
    ∃ (E : Dsk) (all : Str), (D.write f a s).2 = 0 ∧ (D.write f a s).1 = E ∧ E.read f a s.length = (s, 0) ∧ E.size f = all.length ∧ E.read f 0 all.length = (all, 0) ∧ E.read f a size = (Dsk.readS all a.toNat size.toNat, 0) ∧ all.length ≤ 16777216 ∧
      ∀ fr : Nat, fr ≤ all.length → (E.truncate f fr).2 = 0 ∧ (((E.truncate f fr).1.crash []).start.read f 0 16777216) = (all.take fr, 0) := by
  have e := Dsk.write_up hd ha0 f0 (by omega) h2 (s := s) (by omega)
  have hE := hok.add (f := f) f0 (by omega) (a := a.toNat) (s := s) (by omega)
  obtain ⟨s1, s2, _, _⟩ := Dsk.add_same D f a.toNat s
  have hd' := s1.trans hd
  have ha' := s2.trans ha0
  have hfile := Dsk.add_file D f a.toNat s
  refine ⟨D.add f a.toNat s, ((D.add f a.toNat s).file f).1, by rw [e], by rw [e], ?_, rfl, ?_, ?_, (hE.lens f).1, fun fr hfr => ?_⟩
  · rw [Dsk.read_up hd' f0 (by omega) h2 (by omega), hfile, Int.toNat_natCast, Dsk.readS_put]
  · rw [Dsk.read_up hd' f0 (by omega) (by omega) (by omega), Int.toNat_natCast]
    rw [show (0 : Int).toNat = 0 from rfl, Dsk.readS_whole _ _ (Nat.le_refl _)]
  · rw [Dsk.read_up hd' f0 (by omega) h2 h4]
  · have et := Dsk.truncate_up hd' ha' f0 (by omega) (n := (fr : Int)) (by omega) (by omega)
    rw [et]
    refine ⟨rfl, ?_⟩
    have hG := hE.settle (f := f) f0 (by omega) (s := ((D.add f a.toNat s).file f).1.take (fr : Int).toNat) (by have := (hE.lens f).1; simp; omega)
    have hcr := Dsk.crash_up (D := (D.add f a.toNat s).settle f (((D.add f a.toNat s).file f).1.take (fr : Int).toNat)) [] hd' f
    rw [Dsk.read_all rfl f0 (by omega) (hG.crash []).start]
    show (((Dsk.crash _ []).file f).1, (0 : Int)) = _
    rw [hcr.1, Dsk.crashF_nil]
    simp [Dsk.settle, Dsk.setFile]

set_option maxRecDepth 100000 in
set_option maxHeartbeats 1000000 in
theorem reads_yes1 (W : World) {vl : Value} {l : List DAct} (hl : Acts (oldB W) W vl l) (f : Int) (a : Nat) (s : Str) (size : Nat) (h : fewB l = true) (h1 : s.length ≤ 300) (h3 : a ≤ 3000) (h4' : I64 size)
    (h5 : (Dsk.init.steps l).down = false) (h6 : 0 ≤ f) (h7 : f ≤ 15) (E : Dsk) (all : Str)
    (q1 : (((Dsk.init.steps l).arm 0 []).write f a s).2 = 0) (q2 : (((Dsk.init.steps l).arm 0 []).write f a s).1 = E) (q3 : E.read f a s.length = (s, 0)) (q4 : E.size f = all.length) (q5 : E.read f 0 all.length = (all, 0))
    (q6 : E.read f a size = (Dsk.readS all a size, 0)) (q7 : all.length ≤ 16777216) (q8 : (E.truncate f (a : Nat)).2 = 0) (q9 : (((E.truncate f (a : Nat)).1.crash []).start.read f 0 16777216) = (all.take (a), 0))
    (c1 : ¬ ((all.length : Int) < (a : Int))) (c2 : ¬ ((all.length : Int) - (a : Int) < (size : Int))) :
    Calls Try.prog 7 #[vl, .int .i64 f, .int .i64 (a : Int), strV s, .int .i64 (size : Int)] W (SmallTo W) := by
  have HL := Lib.hid hl
  have HF := Lib.hid h
  have HD := Lib.hid (show ((Dsk.init.steps l).arm 0 []).down = false from h5)
  have Q1 := Lib.hid q1
  have Q2 := Lib.hid q2
  have Q3 := Lib.hid q3
  have Q4 := Lib.hid q4
  have Q5 := Lib.hid q5
  rw [Dsk.readS_cut] at q6
  obtain ⟨part, hpart⟩ : ∃ part, (all.drop (min a all.length)).take (min size (all.length - min a all.length)) = part := ⟨_, rfl⟩
  rw [hpart] at q6
  have HPT := Lib.hid hpart
  have Q6 := Lib.hid q6
  have Q8 := Lib.hid q8
  have Q9 := Lib.hid q9
  clear hl h q1 q2 q3 q4 q5 q6 q8 h5 q9 hpart
  go_enter Try.func7, Try.ntmps7
  go_wp2_with fail
  refine (small_c W).mono ?_
  rintro e w1 ⟨rfl, o1⟩
  have hA1 := HL.out.only o1 fun _ _ h => h
  have hfw := few_c hA1
  rw [HF.out] at hfw
  have HFW := Lib.hid hfw
  have O1 := Lib.hid o1
  have HP := Lib.hid (played_c hA1 (fun k hk => Nat.lt_of_lt_of_le hk o1.size) (fewB_le HF.out))
  clear hfw o1 hA1
  go_wp2_with fail
  refine HFW.out.mono ?_
  rintro e w' ⟨rfl, rfl⟩
  go_wp2_with fail
  refine HP.out.mono ?_
  rintro e w2 ⟨d, rfl, n2⟩
  go_wp2_with fail
  refine (n2.arm_ 0 (by unfold I64; omega) (SliceOf.nil_ RInt 1 w2 (S := NoF)) (by simp) rfl).mono ?_
  rintro e w3 ⟨rfl, n3⟩
  go_wp2_with fail
  refine (n3.down_ HD.out).mono ?_
  rintro e w' ⟨rfl, rfl⟩
  go_wp2_with fail
  refine (n3.write_ f a s Q1.out Q2.out (by unfold I64; omega) (by omega)).mono ?_
  rintro e w4 ⟨rfl, n4⟩
  clear n3 n2
  go_wp2_with fail
  refine (n4.read_ f a s.length Q3.out (by unfold I64; omega) (by unfold I64; omega)).mono ?_
  rintro e w' ⟨rfl, rfl⟩
  go_wp2_with fail
  refine (n4.size_ f Q4.out).mono ?_
  rintro e w' ⟨rfl, rfl⟩
  go_wp2_with fail
  refine (n4.read_ f 0 all.length Q5.out (by unfold I64; omega) (by unfold I64; omega)).mono ?_
  rintro e w' ⟨rfl, rfl⟩
  go_wp2_with fail
  refine (n4.read_ f a size Q6.out (by unfold I64; omega) h4').mono ?_
  rintro e w' ⟨rfl, rfl⟩
  go_wp2_with fail
  refine (n4.size_ f Q4.out).mono ?_
  rintro e w' ⟨rfl, rfl⟩
  go_wp2_with fail
  · rename_i hz
    exfalso
    have hp := HPT.out.symm
    rw [show min a all.length = a by omega, show min size (all.length - a) = size by omega] at hp
    rw [hp] at hz
    simp at hz
  · refine (n4.truncate_ f (a : Nat) Q8.out rfl (by unfold I64; omega)).mono ?_
    rintro e w5 ⟨rfl, n5⟩
    go_wp2_with fail
    refine (n5.crash_ (SliceOf.nil_ RInt 1 w5 (S := NoF)) (by simp) (fun _ h => h.elim) rfl).mono ?_
    rintro e w6 ⟨rfl, n6⟩
    go_wp2_with fail
    refine (n6.start_ rfl).mono ?_
    rintro e w7 ⟨rfl, n7⟩
    go_wp2_with fail
    refine (n7.read_ f 0 16777216 Q9.out (by unfold I64; omega) (by unfold I64; omega)).mono ?_
    rintro e w' ⟨rfl, rfl⟩
    have O7 := Lib.hid n7
    clear n4 n5 n6 n7
    go_wp2_with fail
    go_ret
    obtain ⟨_, _, o7, _⟩ := O7.out
    exact ⟨rfl, O1.out.trans' o7⟩
set_option maxRecDepth 100000 in
set_option maxHeartbeats 1000000 in
theorem reads_yes2 (W : World) {vl : Value} {l : List DAct} (hl : Acts (oldB W) W vl l) (f : Int) (a : Nat) (s : Str) (size : Nat) (h : fewB l = true) (h1 : s.length ≤ 300) (h3 : a ≤ 3000) (h4' : I64 size)
    (h5 : (Dsk.init.steps l).down = false) (h6 : 0 ≤ f) (h7 : f ≤ 15) (E : Dsk) (all : Str)
    (q1 : (((Dsk.init.steps l).arm 0 []).write f a s).2 = 0) (q2 : (((Dsk.init.steps l).arm 0 []).write f a s).1 = E) (q3 : E.read f a s.length = (s, 0)) (q4 : E.size f = all.length) (q5 : E.read f 0 all.length = (all, 0))
    (q6 : E.read f a size = (Dsk.readS all a size, 0)) (q7 : all.length ≤ 16777216) (q8 : (E.truncate f (a : Nat)).2 = 0) (q9 : (((E.truncate f (a : Nat)).1.crash []).start.read f 0 16777216) = (all.take (a), 0))
    (c1 : ¬ ((all.length : Int) < (a : Int))) (c2 : ((all.length : Int) - (a : Int) < (size : Int))) :
    Calls Try.prog 7 #[vl, .int .i64 f, .int .i64 (a : Int), strV s, .int .i64 (size : Int)] W (SmallTo W) := by
  have HL := Lib.hid hl
  have HF := Lib.hid h
  have HD := Lib.hid (show ((Dsk.init.steps l).arm 0 []).down = false from h5)
  have Q1 := Lib.hid q1
  have Q2 := Lib.hid q2
  have Q3 := Lib.hid q3
  have Q4 := Lib.hid q4
  have Q5 := Lib.hid q5
  rw [Dsk.readS_cut] at q6
  obtain ⟨part, hpart⟩ : ∃ part, (all.drop (min a all.length)).take (min size (all.length - min a all.length)) = part := ⟨_, rfl⟩
  rw [hpart] at q6
  have HPT := Lib.hid hpart
  have Q6 := Lib.hid q6
  have Q8 := Lib.hid q8
  have Q9 := Lib.hid q9
  clear hl h q1 q2 q3 q4 q5 q6 q8 h5 q9 hpart
  go_enter Try.func7, Try.ntmps7
  go_wp2_with fail
  refine (small_c W).mono ?_
  rintro e w1 ⟨rfl, o1⟩
  have hA1 := HL.out.only o1 fun _ _ h => h
  have hfw := few_c hA1
  rw [HF.out] at hfw
  have HFW := Lib.hid hfw
  have O1 := Lib.hid o1
  have HP := Lib.hid (played_c hA1 (fun k hk => Nat.lt_of_lt_of_le hk o1.size) (fewB_le HF.out))
  clear hfw o1 hA1
  go_wp2_with fail
  refine HFW.out.mono ?_
  rintro e w' ⟨rfl, rfl⟩
  go_wp2_with fail
  refine HP.out.mono ?_
  rintro e w2 ⟨d, rfl, n2⟩
  go_wp2_with fail
  refine (n2.arm_ 0 (by unfold I64; omega) (SliceOf.nil_ RInt 1 w2 (S := NoF)) (by simp) rfl).mono ?_
  rintro e w3 ⟨rfl, n3⟩
  go_wp2_with fail
  refine (n3.down_ HD.out).mono ?_
  rintro e w' ⟨rfl, rfl⟩
  go_wp2_with fail
  refine (n3.write_ f a s Q1.out Q2.out (by unfold I64; omega) (by omega)).mono ?_
  rintro e w4 ⟨rfl, n4⟩
  clear n3 n2
  go_wp2_with fail
  refine (n4.read_ f a s.length Q3.out (by unfold I64; omega) (by unfold I64; omega)).mono ?_
  rintro e w' ⟨rfl, rfl⟩
  go_wp2_with fail
  refine (n4.size_ f Q4.out).mono ?_
  rintro e w' ⟨rfl, rfl⟩
  go_wp2_with fail
  refine (n4.read_ f 0 all.length Q5.out (by unfold I64; omega) (by unfold I64; omega)).mono ?_
  rintro e w' ⟨rfl, rfl⟩
  go_wp2_with fail
  refine (n4.read_ f a size Q6.out (by unfold I64; omega) h4').mono ?_
  rintro e w' ⟨rfl, rfl⟩
  go_wp2_with fail
  refine (n4.size_ f Q4.out).mono ?_
  rintro e w' ⟨rfl, rfl⟩
  go_wp2_with fail
  · rename_i hz
    exfalso
    have hp := HPT.out.symm
    rw [show min a all.length = a by omega, show min size (all.length - a) = all.length - a by omega] at hp
    rw [hp] at hz
    simp at hz
  · refine (n4.truncate_ f (a : Nat) Q8.out rfl (by unfold I64; omega)).mono ?_
    rintro e w5 ⟨rfl, n5⟩
    go_wp2_with fail
    refine (n5.crash_ (SliceOf.nil_ RInt 1 w5 (S := NoF)) (by simp) (fun _ h => h.elim) rfl).mono ?_
    rintro e w6 ⟨rfl, n6⟩
    go_wp2_with fail
    refine (n6.start_ rfl).mono ?_
    rintro e w7 ⟨rfl, n7⟩
    go_wp2_with fail
    refine (n7.read_ f 0 16777216 Q9.out (by unfold I64; omega) (by unfold I64; omega)).mono ?_
    rintro e w' ⟨rfl, rfl⟩
    have O7 := Lib.hid n7
    clear n4 n5 n6 n7
    go_wp2_with fail
    go_ret
    obtain ⟨_, _, o7, _⟩ := O7.out
    exact ⟨rfl, O1.out.trans' o7⟩
set_option maxRecDepth 100000 in
set_option maxHeartbeats 1000000 in
theorem reads_yes3 (W : World) {vl : Value} {l : List DAct} (hl : Acts (oldB W) W vl l) (f : Int) (a : Nat) (s : Str) (size : Nat) (h : fewB l = true) (h1 : s.length ≤ 300) (h3 : a ≤ 3000) (h4' : I64 size)
    (h5 : (Dsk.init.steps l).down = false) (h6 : 0 ≤ f) (h7 : f ≤ 15) (E : Dsk) (all : Str)
    (q1 : (((Dsk.init.steps l).arm 0 []).write f a s).2 = 0) (q2 : (((Dsk.init.steps l).arm 0 []).write f a s).1 = E) (q3 : E.read f a s.length = (s, 0)) (q4 : E.size f = all.length) (q5 : E.read f 0 all.length = (all, 0))
    (q6 : E.read f a size = (Dsk.readS all a size, 0)) (q7 : all.length ≤ 16777216) (q8 : (E.truncate f (all.length : Nat)).2 = 0) (q9 : (((E.truncate f (all.length : Nat)).1.crash []).start.read f 0 16777216) = (all.take (all.length), 0))
    (c1 : ((all.length : Int) < (a : Int))) (c2 : ¬ (0 < (size : Int))) :
    Calls Try.prog 7 #[vl, .int .i64 f, .int .i64 (a : Int), strV s, .int .i64 (size : Int)] W (SmallTo W) := by
  have HL := Lib.hid hl
  have HF := Lib.hid h
  have HD := Lib.hid (show ((Dsk.init.steps l).arm 0 []).down = false from h5)
  have Q1 := Lib.hid q1
  have Q2 := Lib.hid q2
  have Q3 := Lib.hid q3
  have Q4 := Lib.hid q4
  have Q5 := Lib.hid q5
  rw [Dsk.readS_cut] at q6
  obtain ⟨part, hpart⟩ : ∃ part, (all.drop (min a all.length)).take (min size (all.length - min a all.length)) = part := ⟨_, rfl⟩
  rw [hpart] at q6
  have HPT := Lib.hid hpart
  have Q6 := Lib.hid q6
  have Q8 := Lib.hid q8
  have Q9 := Lib.hid q9
  clear hl h q1 q2 q3 q4 q5 q6 q8 h5 q9 hpart
  go_enter Try.func7, Try.ntmps7
  go_wp2_with fail
  refine (small_c W).mono ?_
  rintro e w1 ⟨rfl, o1⟩
  have hA1 := HL.out.only o1 fun _ _ h => h
  have hfw := few_c hA1
  rw [HF.out] at hfw
  have HFW := Lib.hid hfw
  have O1 := Lib.hid o1
  have HP := Lib.hid (played_c hA1 (fun k hk => Nat.lt_of_lt_of_le hk o1.size) (fewB_le HF.out))
  clear hfw o1 hA1
  go_wp2_with fail
  refine HFW.out.mono ?_
  rintro e w' ⟨rfl, rfl⟩
  go_wp2_with fail
  refine HP.out.mono ?_
  rintro e w2 ⟨d, rfl, n2⟩
  go_wp2_with fail
  refine (n2.arm_ 0 (by unfold I64; omega) (SliceOf.nil_ RInt 1 w2 (S := NoF)) (by simp) rfl).mono ?_
  rintro e w3 ⟨rfl, n3⟩
  go_wp2_with fail
  refine (n3.down_ HD.out).mono ?_
  rintro e w' ⟨rfl, rfl⟩
  go_wp2_with fail
  refine (n3.write_ f a s Q1.out Q2.out (by unfold I64; omega) (by omega)).mono ?_
  rintro e w4 ⟨rfl, n4⟩
  clear n3 n2
  go_wp2_with fail
  refine (n4.read_ f a s.length Q3.out (by unfold I64; omega) (by unfold I64; omega)).mono ?_
  rintro e w' ⟨rfl, rfl⟩
  go_wp2_with fail
  refine (n4.size_ f Q4.out).mono ?_
  rintro e w' ⟨rfl, rfl⟩
  go_wp2_with fail
  refine (n4.read_ f 0 all.length Q5.out (by unfold I64; omega) (by unfold I64; omega)).mono ?_
  rintro e w' ⟨rfl, rfl⟩
  go_wp2_with fail
  refine (n4.read_ f a size Q6.out (by unfold I64; omega) h4').mono ?_
  rintro e w' ⟨rfl, rfl⟩
  go_wp2_with fail
  refine (n4.size_ f Q4.out).mono ?_
  rintro e w' ⟨rfl, rfl⟩
  go_wp2_with fail
  · rename_i hz
    exfalso
    have hp := HPT.out.symm
    rw [show min a all.length = all.length by omega, List.drop_length, List.take_nil] at hp
    rw [hp] at hz
    simp at hz
  · refine (n4.truncate_ f (all.length : Nat) Q8.out rfl (by unfold I64; omega)).mono ?_
    rintro e w5 ⟨rfl, n5⟩
    go_wp2_with fail
    refine (n5.crash_ (SliceOf.nil_ RInt 1 w5 (S := NoF)) (by simp) (fun _ h => h.elim) rfl).mono ?_
    rintro e w6 ⟨rfl, n6⟩
    go_wp2_with fail
    refine (n6.start_ rfl).mono ?_
    rintro e w7 ⟨rfl, n7⟩
    go_wp2_with fail
    refine (n7.read_ f 0 16777216 Q9.out (by unfold I64; omega) (by unfold I64; omega)).mono ?_
    rintro e w' ⟨rfl, rfl⟩
    have O7 := Lib.hid n7
    clear n4 n5 n6 n7
    go_wp2_with fail
    go_ret
    obtain ⟨_, _, o7, _⟩ := O7.out
    exact ⟨rfl, O1.out.trans' o7⟩
set_option maxRecDepth 100000 in
set_option maxHeartbeats 1000000 in
theorem reads_yes4 (W : World) {vl : Value} {l : List DAct} (hl : Acts (oldB W) W vl l) (f : Int) (a : Nat) (s : Str) (size : Nat) (h : fewB l = true) (h1 : s.length ≤ 300) (h3 : a ≤ 3000) (h4' : I64 size)
    (h5 : (Dsk.init.steps l).down = false) (h6 : 0 ≤ f) (h7 : f ≤ 15) (E : Dsk) (all : Str)
    (q1 : (((Dsk.init.steps l).arm 0 []).write f a s).2 = 0) (q2 : (((Dsk.init.steps l).arm 0 []).write f a s).1 = E) (q3 : E.read f a s.length = (s, 0)) (q4 : E.size f = all.length) (q5 : E.read f 0 all.length = (all, 0))
    (q6 : E.read f a size = (Dsk.readS all a size, 0)) (q7 : all.length ≤ 16777216) (q8 : (E.truncate f (all.length : Nat)).2 = 0) (q9 : (((E.truncate f (all.length : Nat)).1.crash []).start.read f 0 16777216) = (all.take (all.length), 0))
    (c1 : ((all.length : Int) < (a : Int))) (c2 : (0 < (size : Int))) :
    Calls Try.prog 7 #[vl, .int .i64 f, .int .i64 (a : Int), strV s, .int .i64 (size : Int)] W (SmallTo W) := by
  have HL := Lib.hid hl
  have HF := Lib.hid h
  have HD := Lib.hid (show ((Dsk.init.steps l).arm 0 []).down = false from h5)
  have Q1 := Lib.hid q1
  have Q2 := Lib.hid q2
  have Q3 := Lib.hid q3
  have Q4 := Lib.hid q4
  have Q5 := Lib.hid q5
  rw [Dsk.readS_cut] at q6
  obtain ⟨part, hpart⟩ : ∃ part, (all.drop (min a all.length)).take (min size (all.length - min a all.length)) = part := ⟨_, rfl⟩
  rw [hpart] at q6
  have HPT := Lib.hid hpart
  have Q6 := Lib.hid q6
  have Q8 := Lib.hid q8
  have Q9 := Lib.hid q9
  clear hl h q1 q2 q3 q4 q5 q6 q8 h5 q9 hpart
  go_enter Try.func7, Try.ntmps7
  go_wp2_with fail
  refine (small_c W).mono ?_
  rintro e w1 ⟨rfl, o1⟩
  have hA1 := HL.out.only o1 fun _ _ h => h
  have hfw := few_c hA1
  rw [HF.out] at hfw
  have HFW := Lib.hid hfw
  have O1 := Lib.hid o1
  have HP := Lib.hid (played_c hA1 (fun k hk => Nat.lt_of_lt_of_le hk o1.size) (fewB_le HF.out))
  clear hfw o1 hA1
  go_wp2_with fail
  refine HFW.out.mono ?_
  rintro e w' ⟨rfl, rfl⟩
  go_wp2_with fail
  refine HP.out.mono ?_
  rintro e w2 ⟨d, rfl, n2⟩
  go_wp2_with fail
  refine (n2.arm_ 0 (by unfold I64; omega) (SliceOf.nil_ RInt 1 w2 (S := NoF)) (by simp) rfl).mono ?_
  rintro e w3 ⟨rfl, n3⟩
  go_wp2_with fail
  refine (n3.down_ HD.out).mono ?_
  rintro e w' ⟨rfl, rfl⟩
  go_wp2_with fail
  refine (n3.write_ f a s Q1.out Q2.out (by unfold I64; omega) (by omega)).mono ?_
  rintro e w4 ⟨rfl, n4⟩
  clear n3 n2
  go_wp2_with fail
  refine (n4.read_ f a s.length Q3.out (by unfold I64; omega) (by unfold I64; omega)).mono ?_
  rintro e w' ⟨rfl, rfl⟩
  go_wp2_with fail
  refine (n4.size_ f Q4.out).mono ?_
  rintro e w' ⟨rfl, rfl⟩
  go_wp2_with fail
  refine (n4.read_ f 0 all.length Q5.out (by unfold I64; omega) (by unfold I64; omega)).mono ?_
  rintro e w' ⟨rfl, rfl⟩
  go_wp2_with fail
  refine (n4.read_ f a size Q6.out (by unfold I64; omega) h4').mono ?_
  rintro e w' ⟨rfl, rfl⟩
  go_wp2_with fail
  refine (n4.size_ f Q4.out).mono ?_
  rintro e w' ⟨rfl, rfl⟩
  go_wp2_with fail
  · rename_i hz
    exfalso
    have hp := HPT.out.symm
    rw [show min a all.length = all.length by omega, List.drop_length, List.take_nil] at hp
    rw [hp] at hz
    simp at hz
  · refine (n4.truncate_ f (all.length : Nat) Q8.out rfl (by unfold I64; omega)).mono ?_
    rintro e w5 ⟨rfl, n5⟩
    go_wp2_with fail
    refine (n5.crash_ (SliceOf.nil_ RInt 1 w5 (S := NoF)) (by simp) (fun _ h => h.elim) rfl).mono ?_
    rintro e w6 ⟨rfl, n6⟩
    go_wp2_with fail
    refine (n6.start_ rfl).mono ?_
    rintro e w7 ⟨rfl, n7⟩
    go_wp2_with fail
    refine (n7.read_ f 0 16777216 Q9.out (by unfold I64; omega) (by unfold I64; omega)).mono ?_
    rintro e w' ⟨rfl, rfl⟩
    have O7 := Lib.hid n7
    clear n4 n5 n6 n7
    go_wp2_with fail
    go_ret
    obtain ⟨_, _, o7, _⟩ := O7.out
    exact ⟨rfl, O1.out.trans' o7⟩

theorem reads_c (W : World) {vl : Value} {l : List DAct} (hl : Acts (oldB W) W vl l) (f : Int) (hf : I64 f) (a : Int) (ha : I64 a) (s : Str) (hs : s.length ≤ maxLen) (size : Int) (hz : I64 size) :
    Calls Try.prog 7 #[vl, .int .i64 f, .int .i64 a, strV s, .int .i64 size] W (SmallTo W) := by
  have hn : ∀ x ∈ l, I64 x.n := by
    obtain ⟨A, cap, xs, _, _, _, _, h4⟩ := hl
    intro x hx
    obtain ⟨i, hi⟩ := List.getElem?_of_mem hx
    obtain ⟨_, _, _, _, h, _⟩ := h4 i x hi
    exact h
  by_cases h : fewB l = true ∧ s.length ≤ 300 ∧ 0 ≤ a ∧ a ≤ 3000 ∧ 0 ≤ size
  · obtain ⟨h1, h2, h3, h4, h5⟩ := h
    by_cases hd : (Dsk.init.steps l).down = false ∧ 0 ≤ f ∧ f ≤ 15
    · obtain ⟨d1, d2, d3⟩ := hd
      have hok : ((Dsk.init.steps l).arm 0 []).Ok := (Dsk.init_ok.steps fun x hx => ⟨hn x hx, (fewB_le h1 x hx).2.1⟩).arm 0 (by unfold I64; omega) [] (by simp)
      obtain ⟨E, all, q1, q2, q3, q4, q5, q6, q7, q8⟩ := reads_plain (D := (Dsk.init.steps l).arm 0 []) hok d1 rfl d2 d3 h2 h3 h4 h5 (s := s)
      obtain ⟨a, rfl⟩ := Int.eq_ofNat_of_zero_le h3
      obtain ⟨size, rfl⟩ := Int.eq_ofNat_of_zero_le h5
      rw [Int.toNat_natCast, Int.toNat_natCast] at q6
      by_cases c1 : (all.length : Int) < (a : Int)
      · by_cases c2 : 0 < (size : Int)
        · exact reads_yes4 W hl f a s size h1 h2 (by omega) hz d1 d2 d3 E all q1 q2 q3 q4 q5 q6 q7 (q8 _ (Nat.le_refl _)).1 (q8 _ (Nat.le_refl _)).2 c1 c2
        · exact reads_yes3 W hl f a s size h1 h2 (by omega) hz d1 d2 d3 E all q1 q2 q3 q4 q5 q6 q7 (q8 _ (Nat.le_refl _)).1 (q8 _ (Nat.le_refl _)).2 c1 c2
      · by_cases c2 : (all.length : Int) - (a : Int) < (size : Int)
        · exact reads_yes2 W hl f a s size h1 h2 (by omega) hz d1 d2 d3 E all q1 q2 q3 q4 q5 q6 q7 (q8 _ (by omega)).1 (q8 _ (by omega)).2 c1 c2
        · exact reads_yes1 W hl f a s size h1 h2 (by omega) hz d1 d2 d3 E all q1 q2 q3 q4 q5 q6 q7 (q8 _ (by omega)).1 (q8 _ (by omega)).2 c1 c2
    · refine reads_no W hl f a s size h1 h2 h3 h4 h5 ?_
      cases he : (Dsk.init.steps l).down with
      | true => exact .inl rfl
      | false =>
        have : ¬ (0 ≤ f ∧ f ≤ 15) := fun hc => hd ⟨he, hc⟩
        by_cases hf0 : f < 0
        · exact .inr (.inl ⟨rfl, hf0⟩)
        · exact .inr (.inr ⟨rfl, by omega, by omega⟩)
  · refine reads_out W hl f a s size ?_
    cases he : fewB l with
    | false => exact .inl rfl
    | true =>
      have : ¬ (s.length ≤ 300 ∧ 0 ≤ a ∧ a ≤ 3000 ∧ 0 ≤ size) := fun hc => h ⟨he, hc⟩
      by_cases g1 : 300 < s.length
      · exact .inr (.inl ⟨rfl, g1⟩)
      by_cases g2 : a < 0
      · exact .inr (.inr (.inl ⟨rfl, by omega, g2⟩))
      by_cases g3 : 3000 < a
      · exact .inr (.inr (.inr (.inl ⟨rfl, by omega, by omega, g3⟩)))
      exact .inr (.inr (.inr (.inr ⟨rfl, by omega, by omega, by omega, by omega⟩)))
end Go.Proofs.Ytddmgkppefhlbaa
