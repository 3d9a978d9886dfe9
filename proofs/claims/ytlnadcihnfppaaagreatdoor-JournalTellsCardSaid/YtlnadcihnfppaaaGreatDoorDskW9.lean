/-
  The disk's calls that a scheduled crash may strike: Write, Sync, Truncate; and Crash in both its cases.
-/
import Derived.Test.YtlnadcihnfppaaaGreatDoorDskW8
namespace Go.Proofs.YtlnadcihnfppaaaGreatDoor
set_option linter.unusedVariables false
set_option linter.unusedSimpArgs false
set_option linter.unusedSectionVars false
set_option maxRecDepth 20000
open Go.RowKit

section
variable {w : World} {b : Nat} {D : Dsk} {F : Foot}

theorem DiskTo.then_ {w1 w2 : World} {D1 D2 : Dsk} (h1 : DiskTo w b F D1 w1) (h2 : ∀ F1, IsDisk w1 b D1 F1 → DiskTo w1 b F1 D2 w2) : DiskTo w b F D2 w2 := by
  obtain ⟨F1, i1, o1, f1, r1⟩ := h1
  exact DiskTo.trans o1 f1 r1 (h2 F1 i1)

set_option maxHeartbeats 400000 in
theorem dCrash_c {x : DWit} (h : IsDiskW w b D x) (keep : List Int) (A : Option Addr) (ck : Nat) (S : Nat → Prop) (hk : Reads w S 1 A keep.length (keep.map (Value.int .i64))) (hkl : keep.length ≤ 1000000)
    (hS : ∀ k, S k → k ≠ b ∧ k ≠ x.mf ∧ k ≠ x.ms) :
    Calls Tryz.prog 20 #[.pointer (some ⟨b, 0, none⟩), .slice A keep.length ck] w fun e w' => e = .returned (.tuple #[]) ∧ DiskTo w b (x.foot b) (D.crash keep) w' := by
  cases hd : D.down with
  | false => exact dCrash_up h hd keep A ck S hk hkl hS
  | true =>
    have Hp : D.crash keep = D := by simp [Dsk.crash, hd]
    rw [Hp]
    obtain ⟨d0, d1, d2, d3, d4, d5, d6⟩ := h.cells
    rw [hd] at d4
    have H := Lib.hid h
    clear h hk hS hd Hp d0 d1 d2 d3 d5 d6
    go_enter Tryz.func20, Tryz.ntmps20
    go_wp2
    refine bodyPost_ret (results_none rfl _ _ _) rfl ?_
    exact ⟨rfl, .same ⟨x, H.out, rfl⟩⟩

/-- a crash with what was laid by Arm -/
theorem dCrash_own {x : DWit} (h : IsDiskW w b D x) : Calls Tryz.prog 20 #[.pointer (some ⟨b, 0, none⟩), x.kp] w fun e w' => e = .returned (.tuple #[]) ∧ DiskTo w b (x.foot b) (D.crash D.keep) w' := by
  obtain ⟨A, c, e, _, _, hr⟩ := Reads.of_own h.kpo
  have a5 := h.apart.2.2.2.2
  have := dCrash_c h D.keep A c _ hr (by have := h.ok.keep; omega) fun k hk => ⟨(a5 k hk).1, (a5 k hk).2.1, (a5 k hk).2.2.1⟩
  rw [e]
  exact this

set_option maxHeartbeats 400000 in
theorem dWrite_c (h : IsDisk w b D F) (f at_ : Int) (s : Str) (ha : I64 at_) (hl : s.length ≤ 1000000) :
    Calls Tryz.prog 30 #[.pointer (some ⟨b, 0, none⟩), .int .i64 f, .int .i64 at_, strV s] w fun e w' => e = .returned (.int .i64 (D.write f at_ s).2) ∧ DiskTo w b F (D.write f at_ s).1 w' := by
  have he := dends_c h
  have hbl : b < w.heap.size := h.lt b (by obtain ⟨x, _, rfl⟩ := h; exact .inl (.inl rfl))
  cases hen : D.ends with
  | false =>
    have Hp : D.write f at_ s = D.tick.write0 f at_ s := by simp [Dsk.write, hen]
    rw [Hp]
    rw [hen] at he
    clear Hp hen
    go_enter Tryz.func30, Tryz.ntmps30
    go_wp2_with (first
      | (go_at_call 49; refine he.mono ?_; rintro e w1 ⟨rfl, h1⟩; obtain ⟨F1, i1, o1, f1, r1⟩ := h1; have hw := dwrite_c i1 f at_ s ha hl; have Hi := Lib.hid (And.intro o1 (And.intro f1 r1)); clear o1 f1 r1 i1)
      | (go_at_call 50; refine hw.mono ?_; rintro e w2 ⟨rfl, h2⟩))
    go_ret
    exact ⟨rfl, DiskTo.trans Hi.out.1 Hi.out.2.1 Hi.out.2.2 h2⟩
  | true =>
    have Hp : D.write f at_ s = ((D.tick.write0 f at_ s).1.crash (D.tick.write0 f at_ s).1.keep, 8) := by simp [Dsk.write, hen]
    rw [Hp]
    rw [hen] at he
    clear Hp hen
    go_enter Tryz.func30, Tryz.ntmps30
    go_wp2_with (first
      | (go_at_call 49; refine he.mono ?_; rintro e w1 ⟨rfl, h1⟩; obtain ⟨F1, i1, o1, f1, r1⟩ := h1; have hw := dwrite_c i1 f at_ s ha hl; have Hi := Lib.hid (And.intro o1 (And.intro f1 r1)); clear o1 f1 r1 i1)
      | (go_at_call 50; refine hw.mono ?_; rintro e w2 ⟨rfl, h2⟩; obtain ⟨F2, ⟨x2, i2, hF2⟩, o2, f2, r2⟩ := h2; have c6 := i2.blk.cell 6; have hcr := dCrash_own i2; have Hj := Lib.hid (And.intro o2 (And.intro f2 r2)); have HF2 := Lib.hid hF2; clear o2 f2 r2 i2 hF2)
      | (go_at_call 20; refine hcr.mono ?_; rintro e w3 ⟨rfl, h3⟩))
    go_ret
    refine ⟨rfl, DiskTo.trans Hi.out.1 Hi.out.2.1 Hi.out.2.2 (DiskTo.trans Hj.out.1 Hj.out.2.1 Hj.out.2.2 ?_)⟩
    rw [HF2.out]
    exact h3

theorem tock_true {D : Dsk} (h : D.ends = true) : D.tock = D.tick.crash D.tick.keep := by
  have : D.tick.keep = D.keep := by unfold Dsk.tick; split <;> rfl
  rw [this]; simp [Dsk.tock, h]
theorem tock_false {D : Dsk} (h : D.ends = false) : D.tock = D.tick := by simp [Dsk.tock, h]

set_option maxHeartbeats 1000000 in
theorem dSync_false (h : IsDisk w b D F) (f : Int) (hen : D.ends = false) :
    Calls Tryz.prog 33 #[.pointer (some ⟨b, 0, none⟩), .int .i64 f] w fun e w' => e = .returned (.int .i64 (D.sync f).2) ∧ DiskTo w b F (D.sync f).1 w' := by
  have he := dends_c h
  rw [hen] at he
  have hT : D.tock = D.tick := tock_false hen
  unfold Dsk.sync
  rw [hT]
  have hbl : b < w.heap.size := h.lt b (by obtain ⟨x, _, rfl⟩ := h; exact .inl (.inl rfl))
  have hok : (D.tick).Ok := by rw [← hT]; exact h.ok.tock
  clear h hT hen
  generalize hTT : D.tick = T at *
  by_cases hmay : T.may f = 0
  · by_cases hlo : 0 < T.lost
    · have Hp := Lib.hid (show T.sync0 f = ({ T with lost := T.lost - 1 }, 9) from by simp [Dsk.sync0, hmay, hlo])
      have hl2 := hok.lost
      go_enter Tryz.func33, Tryz.ntmps33
      go_wp2_with (first
        | (go_at_call 49; refine he.mono ?_; rintro e w1 ⟨rfl, h1⟩; obtain ⟨F1, ⟨x1, i1, e1⟩, o1, f1, r1⟩ := h1; have hm := dmay_c ⟨x1, i1, rfl⟩ f; rw [hmay] at hm; obtain ⟨c0, _, _, c3, _, _, _⟩ := i1.cells; have hlk := i1.look f; have z3 := i1.blk.frozen 3; have hsz := dSize_c ⟨x1, i1, rfl⟩ f; have HI := Lib.hid (And.intro i1 (And.intro e1 (And.intro o1 (And.intro f1 r1)))); clear i1 e1 o1 f1 r1)
        | (go_at_call 20; refine hcr.mono ?_; rintro e w1 ⟨rfl, h1⟩; fail)
        | (go_at_call 46; refine hm.mono ?_; rintro e w' ⟨rfl, rfl⟩)
        | (go_at_call 27; refine hsz.mono ?_; rintro e w' ⟨rfl, rfl⟩)
        | (go_at_call 51; refine hst.mono ?_; rintro e w5 ⟨rfl, h5⟩))
      go_ret
      rw [Hp.out]
      exact ⟨rfl, DiskTo.trans HI.out.2.2.1 HI.out.2.2.2.1 HI.out.2.2.2.2 ((HI.out.1.store (D' := { T with lost := T.lost - 1 }) 3 (.int .i64 (T.lost - 1)) rfl rfl rfl rfl { hok with lost := ⟨by simp only; omega, by simp only; omega⟩ }).to ((Only.refl F1.m _).setCell (.inl (by rw [HI.out.2.1]; exact .inl rfl)) _) HI.out.2.1 fun k hk => .inl hk)⟩
    · have Hp := Lib.hid (show T.sync0 f = (T.settle f (T.file f).1, 0) from by simp [Dsk.sync0, hmay, hlo])
      have hmz := Dsk.may_zero hmay
      go_enter Tryz.func33, Tryz.ntmps33
      go_wp2_with (first
        | (go_at_call 49; refine he.mono ?_; rintro e w1 ⟨rfl, h1⟩; obtain ⟨F1, ⟨x1, i1, e1⟩, o1, f1, r1⟩ := h1; have hm := dmay_c ⟨x1, i1, rfl⟩ f; rw [hmay] at hm; obtain ⟨c0, _, _, c3, _, _, _⟩ := i1.cells; have hlk := i1.look f; have z3 := i1.blk.frozen 3; have hsz := dSize_c ⟨x1, i1, rfl⟩ f; have hst := dsettle_c ⟨x1, i1, rfl⟩ f (T.file f).1 hmz.2.1 hmz.2.2 (hok.lens f).1; have HI := Lib.hid (And.intro i1 (And.intro e1 (And.intro o1 (And.intro f1 r1)))); clear i1 e1 o1 f1 r1)
        | (go_at_call 20; refine hcr.mono ?_; rintro e w1 ⟨rfl, h1⟩; fail)
        | (go_at_call 46; refine hm.mono ?_; rintro e w' ⟨rfl, rfl⟩)
        | (go_at_call 27; refine hsz.mono ?_; rintro e w' ⟨rfl, rfl⟩)
        | (go_at_call 51; refine hst.mono ?_; rintro e w5 ⟨rfl, h5⟩))
      go_ret
      rw [Hp.out]
      exact ⟨rfl, DiskTo.trans HI.out.2.2.1 HI.out.2.2.2.1 HI.out.2.2.2.2 (by rw [HI.out.2.1]; exact h5)⟩
  · have Hp := Lib.hid (show T.sync0 f = (T, T.may f) from by simp [Dsk.sync0, hmay])
    have hmb : (T.may f != 0) = true := by simp [hmay]
    go_enter Tryz.func33, Tryz.ntmps33
    go_wp2_with (first
        | (go_at_call 49; refine he.mono ?_; rintro e w1 ⟨rfl, h1⟩; obtain ⟨F1, ⟨x1, i1, e1⟩, o1, f1, r1⟩ := h1; have hm := dmay_c ⟨x1, i1, rfl⟩ f; obtain ⟨c0, _, _, c3, _, _, _⟩ := i1.cells; have hlk := i1.look f; have z3 := i1.blk.frozen 3; have hsz := dSize_c ⟨x1, i1, rfl⟩ f; have HI := Lib.hid (And.intro i1 (And.intro e1 (And.intro o1 (And.intro f1 r1)))); clear i1 e1 o1 f1 r1)
        | (go_at_call 20; refine hcr.mono ?_; rintro e w1 ⟨rfl, h1⟩; fail)
        | (go_at_call 46; refine hm.mono ?_; rintro e w' ⟨rfl, rfl⟩)
        | (go_at_call 27; refine hsz.mono ?_; rintro e w' ⟨rfl, rfl⟩)
        | (go_at_call 51; refine hst.mono ?_; rintro e w5 ⟨rfl, h5⟩))
    go_ret
    rw [Hp.out]
    exact ⟨rfl, DiskTo.trans HI.out.2.2.1 HI.out.2.2.2.1 HI.out.2.2.2.2 (.same ⟨_, HI.out.1, HI.out.2.1⟩)⟩

set_option maxHeartbeats 1000000 in
theorem dTruncate_false (h : IsDisk w b D F) (f size : Int) (hen : D.ends = false) (hsi : I64 size) :
    Calls Tryz.prog 35 #[.pointer (some ⟨b, 0, none⟩), .int .i64 f, .int .i64 size] w fun e w' => e = .returned (.int .i64 (D.truncate f size).2) ∧ DiskTo w b F (D.truncate f size).1 w' := by
  have he := dends_c h
  rw [hen] at he
  have hT : D.tock = D.tick := tock_false hen
  unfold Dsk.truncate
  rw [hT]
  have hbl : b < w.heap.size := h.lt b (by obtain ⟨x, _, rfl⟩ := h; exact .inl (.inl rfl))
  have hok : (D.tick).Ok := by rw [← hT]; exact h.ok.tock
  clear h hT hen
  generalize hTT : D.tick = T at *
  by_cases hmay : T.may f = 0
  · by_cases hlo : size < 0 ∨ ((T.file f).1.length : Int) < size
    · have Hp := Lib.hid (show T.truncate0 f size = (T, 1) from by simp [Dsk.truncate0, hmay, hlo])
      by_cases hneg : size < 0
      · go_enter Tryz.func35, Tryz.ntmps35
        go_wp2_with (first
        | (go_at_call 49; refine he.mono ?_; rintro e w1 ⟨rfl, h1⟩; obtain ⟨F1, ⟨x1, i1, e1⟩, o1, f1, r1⟩ := h1; have hm := dmay_c ⟨x1, i1, rfl⟩ f; rw [hmay] at hm; obtain ⟨c0, _, _, c3, _, _, _⟩ := i1.cells; have hlk := i1.look f; have z3 := i1.blk.frozen 3; have hsz := dSize_c ⟨x1, i1, rfl⟩ f; have HI := Lib.hid (And.intro i1 (And.intro e1 (And.intro o1 (And.intro f1 r1)))); clear i1 e1 o1 f1 r1)
        | (go_at_call 20; refine hcr.mono ?_; rintro e w1 ⟨rfl, h1⟩; fail)
        | (go_at_call 46; refine hm.mono ?_; rintro e w' ⟨rfl, rfl⟩)
        | (go_at_call 27; refine hsz.mono ?_; rintro e w' ⟨rfl, rfl⟩)
        | (go_at_call 51; refine hst.mono ?_; rintro e w5 ⟨rfl, h5⟩))
        go_ret
        rw [Hp.out]
        exact ⟨rfl, DiskTo.trans HI.out.2.2.1 HI.out.2.2.2.1 HI.out.2.2.2.2 (.same ⟨_, HI.out.1, HI.out.2.1⟩)⟩
      · have hle : ((T.size f : Nat) : Int) < size := by unfold Dsk.size; omega
        go_enter Tryz.func35, Tryz.ntmps35
        go_wp2_with (first
        | (go_at_call 49; refine he.mono ?_; rintro e w1 ⟨rfl, h1⟩; obtain ⟨F1, ⟨x1, i1, e1⟩, o1, f1, r1⟩ := h1; have hm := dmay_c ⟨x1, i1, rfl⟩ f; rw [hmay] at hm; obtain ⟨c0, _, _, c3, _, _, _⟩ := i1.cells; have hlk := i1.look f; have z3 := i1.blk.frozen 3; have hsz := dSize_c ⟨x1, i1, rfl⟩ f; have HI := Lib.hid (And.intro i1 (And.intro e1 (And.intro o1 (And.intro f1 r1)))); clear i1 e1 o1 f1 r1)
        | (go_at_call 20; refine hcr.mono ?_; rintro e w1 ⟨rfl, h1⟩; fail)
        | (go_at_call 46; refine hm.mono ?_; rintro e w' ⟨rfl, rfl⟩)
        | (go_at_call 27; refine hsz.mono ?_; rintro e w' ⟨rfl, rfl⟩)
        | (go_at_call 51; refine hst.mono ?_; rintro e w5 ⟨rfl, h5⟩))
        go_ret
        rw [Hp.out]
        exact ⟨rfl, DiskTo.trans HI.out.2.2.1 HI.out.2.2.2.1 HI.out.2.2.2.2 (.same ⟨_, HI.out.1, HI.out.2.1⟩)⟩
    · have Hp := Lib.hid (show T.truncate0 f size = (T.settle f ((T.file f).1.take size.toNat), 0) from by simp [Dsk.truncate0, hmay, hlo])
      have hmz := Dsk.may_zero hmay
      have h0 : 0 ≤ size := by omega
      have h1 : size ≤ ((T.size f : Nat) : Int) := by unfold Dsk.size; omega
      have h2 : size ≤ ((T.file f).1.length : Int) := by omega
      clear hlo
      go_enter Tryz.func35, Tryz.ntmps35
      go_wp2_with (first
        | (go_at_call 49; refine he.mono ?_; rintro e w1 ⟨rfl, h1⟩; obtain ⟨F1, ⟨x1, i1, e1⟩, o1, f1, r1⟩ := h1; have hm := dmay_c ⟨x1, i1, rfl⟩ f; rw [hmay] at hm; obtain ⟨c0, _, _, c3, _, _, _⟩ := i1.cells; have hlk := i1.look f; have z3 := i1.blk.frozen 3; have hsz := dSize_c ⟨x1, i1, rfl⟩ f; have hst := dsettle_c ⟨x1, i1, rfl⟩ f ((T.file f).1.take size.toNat) hmz.2.1 hmz.2.2 (by have := (hok.lens f).1; simp; omega); have HI := Lib.hid (And.intro i1 (And.intro e1 (And.intro o1 (And.intro f1 r1)))); clear i1 e1 o1 f1 r1)
        | (go_at_call 20; refine hcr.mono ?_; rintro e w1 ⟨rfl, h1⟩; fail)
        | (go_at_call 46; refine hm.mono ?_; rintro e w' ⟨rfl, rfl⟩)
        | (go_at_call 27; refine hsz.mono ?_; rintro e w' ⟨rfl, rfl⟩)
        | (go_at_call 51; refine hst.mono ?_; rintro e w5 ⟨rfl, h5⟩))
      go_ret
      rw [Hp.out]
      exact ⟨rfl, DiskTo.trans HI.out.2.2.1 HI.out.2.2.2.1 HI.out.2.2.2.2 (by rw [HI.out.2.1]; exact h5)⟩
  · have Hp := Lib.hid (show T.truncate0 f size = (T, T.may f) from by simp [Dsk.truncate0, hmay])
    have hmb : (T.may f != 0) = true := by simp [hmay]
    go_enter Tryz.func35, Tryz.ntmps35
    go_wp2_with (first
        | (go_at_call 49; refine he.mono ?_; rintro e w1 ⟨rfl, h1⟩; obtain ⟨F1, ⟨x1, i1, e1⟩, o1, f1, r1⟩ := h1; have hm := dmay_c ⟨x1, i1, rfl⟩ f; obtain ⟨c0, _, _, c3, _, _, _⟩ := i1.cells; have hlk := i1.look f; have z3 := i1.blk.frozen 3; have hsz := dSize_c ⟨x1, i1, rfl⟩ f; have HI := Lib.hid (And.intro i1 (And.intro e1 (And.intro o1 (And.intro f1 r1)))); clear i1 e1 o1 f1 r1)
        | (go_at_call 20; refine hcr.mono ?_; rintro e w1 ⟨rfl, h1⟩; fail)
        | (go_at_call 46; refine hm.mono ?_; rintro e w' ⟨rfl, rfl⟩)
        | (go_at_call 27; refine hsz.mono ?_; rintro e w' ⟨rfl, rfl⟩)
        | (go_at_call 51; refine hst.mono ?_; rintro e w5 ⟨rfl, h5⟩))
    go_ret
    rw [Hp.out]
    exact ⟨rfl, DiskTo.trans HI.out.2.2.1 HI.out.2.2.2.1 HI.out.2.2.2.2 (.same ⟨_, HI.out.1, HI.out.2.1⟩)⟩

set_option maxHeartbeats 1000000 in
theorem dSync_true (h : IsDisk w b D F) (f : Int) (hen : D.ends = true) :
    Calls Tryz.prog 33 #[.pointer (some ⟨b, 0, none⟩), .int .i64 f] w fun e w' => e = .returned (.int .i64 (D.sync f).2) ∧ DiskTo w b F (D.sync f).1 w' := by
  have he := dends_c h
  rw [hen] at he
  have hT : D.tock = (D.tick.crash D.tick.keep) := tock_true hen
  unfold Dsk.sync
  rw [hT]
  have hbl : b < w.heap.size := h.lt b (by obtain ⟨x, _, rfl⟩ := h; exact .inl (.inl rfl))
  have hok : ((D.tick.crash D.tick.keep)).Ok := by rw [← hT]; exact h.ok.tock
  clear h hT hen
  generalize hTT : (D.tick.crash D.tick.keep) = T at *
  by_cases hmay : T.may f = 0
  · by_cases hlo : 0 < T.lost
    · have Hp := Lib.hid (show T.sync0 f = ({ T with lost := T.lost - 1 }, 9) from by simp [Dsk.sync0, hmay, hlo])
      have hl2 := hok.lost
      go_enter Tryz.func33, Tryz.ntmps33
      go_wp2_with (first
        | (go_at_call 49; refine he.mono ?_; rintro e w1 ⟨rfl, h1⟩; obtain ⟨Fa, ⟨xa, ia, ea⟩, oa, fa, ra⟩ := h1; have c6 := ia.blk.cell 6; have hcr := dCrash_own ia; rw [hTT] at hcr; have HJ := Lib.hid (And.intro ea (And.intro oa (And.intro fa ra))); clear ia ea oa fa ra)
        | (go_at_call 20; refine hcr.mono ?_; rintro e w1 ⟨rfl, h1⟩; have h1 := DiskTo.trans HJ.out.2.1 HJ.out.2.2.1 HJ.out.2.2.2 (by rw [HJ.out.1]; exact h1); obtain ⟨F1, ⟨x1, i1, e1⟩, o1, f1, r1⟩ := h1; have hm := dmay_c ⟨x1, i1, rfl⟩ f; rw [hmay] at hm; obtain ⟨c0, _, _, c3, _, _, _⟩ := i1.cells; have hlk := i1.look f; have z3 := i1.blk.frozen 3; have hsz := dSize_c ⟨x1, i1, rfl⟩ f; have HI := Lib.hid (And.intro i1 (And.intro e1 (And.intro o1 (And.intro f1 r1)))); clear i1 e1 o1 f1 r1)
        | (go_at_call 46; refine hm.mono ?_; rintro e w' ⟨rfl, rfl⟩)
        | (go_at_call 27; refine hsz.mono ?_; rintro e w' ⟨rfl, rfl⟩)
        | (go_at_call 51; refine hst.mono ?_; rintro e w5 ⟨rfl, h5⟩))
      go_ret
      rw [Hp.out]
      exact ⟨rfl, DiskTo.trans HI.out.2.2.1 HI.out.2.2.2.1 HI.out.2.2.2.2 ((HI.out.1.store (D' := { T with lost := T.lost - 1 }) 3 (.int .i64 (T.lost - 1)) rfl rfl rfl rfl { hok with lost := ⟨by simp only; omega, by simp only; omega⟩ }).to ((Only.refl F1.m _).setCell (.inl (by rw [HI.out.2.1]; exact .inl rfl)) _) HI.out.2.1 fun k hk => .inl hk)⟩
    · have Hp := Lib.hid (show T.sync0 f = (T.settle f (T.file f).1, 0) from by simp [Dsk.sync0, hmay, hlo])
      have hmz := Dsk.may_zero hmay
      go_enter Tryz.func33, Tryz.ntmps33
      go_wp2_with (first
        | (go_at_call 49; refine he.mono ?_; rintro e w1 ⟨rfl, h1⟩; obtain ⟨Fa, ⟨xa, ia, ea⟩, oa, fa, ra⟩ := h1; have c6 := ia.blk.cell 6; have hcr := dCrash_own ia; rw [hTT] at hcr; have HJ := Lib.hid (And.intro ea (And.intro oa (And.intro fa ra))); clear ia ea oa fa ra)
        | (go_at_call 20; refine hcr.mono ?_; rintro e w1 ⟨rfl, h1⟩; have h1 := DiskTo.trans HJ.out.2.1 HJ.out.2.2.1 HJ.out.2.2.2 (by rw [HJ.out.1]; exact h1); obtain ⟨F1, ⟨x1, i1, e1⟩, o1, f1, r1⟩ := h1; have hm := dmay_c ⟨x1, i1, rfl⟩ f; rw [hmay] at hm; obtain ⟨c0, _, _, c3, _, _, _⟩ := i1.cells; have hlk := i1.look f; have z3 := i1.blk.frozen 3; have hsz := dSize_c ⟨x1, i1, rfl⟩ f; have hst := dsettle_c ⟨x1, i1, rfl⟩ f (T.file f).1 hmz.2.1 hmz.2.2 (hok.lens f).1; have HI := Lib.hid (And.intro i1 (And.intro e1 (And.intro o1 (And.intro f1 r1)))); clear i1 e1 o1 f1 r1)
        | (go_at_call 46; refine hm.mono ?_; rintro e w' ⟨rfl, rfl⟩)
        | (go_at_call 27; refine hsz.mono ?_; rintro e w' ⟨rfl, rfl⟩)
        | (go_at_call 51; refine hst.mono ?_; rintro e w5 ⟨rfl, h5⟩))
      go_ret
      rw [Hp.out]
      exact ⟨rfl, DiskTo.trans HI.out.2.2.1 HI.out.2.2.2.1 HI.out.2.2.2.2 (by rw [HI.out.2.1]; exact h5)⟩
  · have Hp := Lib.hid (show T.sync0 f = (T, T.may f) from by simp [Dsk.sync0, hmay])
    have hmb : (T.may f != 0) = true := by simp [hmay]
    go_enter Tryz.func33, Tryz.ntmps33
    go_wp2_with (first
        | (go_at_call 49; refine he.mono ?_; rintro e w1 ⟨rfl, h1⟩; obtain ⟨Fa, ⟨xa, ia, ea⟩, oa, fa, ra⟩ := h1; have c6 := ia.blk.cell 6; have hcr := dCrash_own ia; rw [hTT] at hcr; have HJ := Lib.hid (And.intro ea (And.intro oa (And.intro fa ra))); clear ia ea oa fa ra)
        | (go_at_call 20; refine hcr.mono ?_; rintro e w1 ⟨rfl, h1⟩; have h1 := DiskTo.trans HJ.out.2.1 HJ.out.2.2.1 HJ.out.2.2.2 (by rw [HJ.out.1]; exact h1); obtain ⟨F1, ⟨x1, i1, e1⟩, o1, f1, r1⟩ := h1; have hm := dmay_c ⟨x1, i1, rfl⟩ f; obtain ⟨c0, _, _, c3, _, _, _⟩ := i1.cells; have hlk := i1.look f; have z3 := i1.blk.frozen 3; have hsz := dSize_c ⟨x1, i1, rfl⟩ f; have HI := Lib.hid (And.intro i1 (And.intro e1 (And.intro o1 (And.intro f1 r1)))); clear i1 e1 o1 f1 r1)
        | (go_at_call 46; refine hm.mono ?_; rintro e w' ⟨rfl, rfl⟩)
        | (go_at_call 27; refine hsz.mono ?_; rintro e w' ⟨rfl, rfl⟩)
        | (go_at_call 51; refine hst.mono ?_; rintro e w5 ⟨rfl, h5⟩))
    go_ret
    rw [Hp.out]
    exact ⟨rfl, DiskTo.trans HI.out.2.2.1 HI.out.2.2.2.1 HI.out.2.2.2.2 (.same ⟨_, HI.out.1, HI.out.2.1⟩)⟩

set_option maxHeartbeats 1000000 in
theorem dTruncate_true (h : IsDisk w b D F) (f size : Int) (hen : D.ends = true) (hsi : I64 size) :
    Calls Tryz.prog 35 #[.pointer (some ⟨b, 0, none⟩), .int .i64 f, .int .i64 size] w fun e w' => e = .returned (.int .i64 (D.truncate f size).2) ∧ DiskTo w b F (D.truncate f size).1 w' := by
  have he := dends_c h
  rw [hen] at he
  have hT : D.tock = (D.tick.crash D.tick.keep) := tock_true hen
  unfold Dsk.truncate
  rw [hT]
  have hbl : b < w.heap.size := h.lt b (by obtain ⟨x, _, rfl⟩ := h; exact .inl (.inl rfl))
  have hok : ((D.tick.crash D.tick.keep)).Ok := by rw [← hT]; exact h.ok.tock
  clear h hT hen
  generalize hTT : (D.tick.crash D.tick.keep) = T at *
  by_cases hmay : T.may f = 0
  · by_cases hlo : size < 0 ∨ ((T.file f).1.length : Int) < size
    · have Hp := Lib.hid (show T.truncate0 f size = (T, 1) from by simp [Dsk.truncate0, hmay, hlo])
      by_cases hneg : size < 0
      · go_enter Tryz.func35, Tryz.ntmps35
        go_wp2_with (first
        | (go_at_call 49; refine he.mono ?_; rintro e w1 ⟨rfl, h1⟩; obtain ⟨Fa, ⟨xa, ia, ea⟩, oa, fa, ra⟩ := h1; have c6 := ia.blk.cell 6; have hcr := dCrash_own ia; rw [hTT] at hcr; have HJ := Lib.hid (And.intro ea (And.intro oa (And.intro fa ra))); clear ia ea oa fa ra)
        | (go_at_call 20; refine hcr.mono ?_; rintro e w1 ⟨rfl, h1⟩; have h1 := DiskTo.trans HJ.out.2.1 HJ.out.2.2.1 HJ.out.2.2.2 (by rw [HJ.out.1]; exact h1); obtain ⟨F1, ⟨x1, i1, e1⟩, o1, f1, r1⟩ := h1; have hm := dmay_c ⟨x1, i1, rfl⟩ f; rw [hmay] at hm; obtain ⟨c0, _, _, c3, _, _, _⟩ := i1.cells; have hlk := i1.look f; have z3 := i1.blk.frozen 3; have hsz := dSize_c ⟨x1, i1, rfl⟩ f; have HI := Lib.hid (And.intro i1 (And.intro e1 (And.intro o1 (And.intro f1 r1)))); clear i1 e1 o1 f1 r1)
        | (go_at_call 46; refine hm.mono ?_; rintro e w' ⟨rfl, rfl⟩)
        | (go_at_call 27; refine hsz.mono ?_; rintro e w' ⟨rfl, rfl⟩)
        | (go_at_call 51; refine hst.mono ?_; rintro e w5 ⟨rfl, h5⟩))
        go_ret
        rw [Hp.out]
        exact ⟨rfl, DiskTo.trans HI.out.2.2.1 HI.out.2.2.2.1 HI.out.2.2.2.2 (.same ⟨_, HI.out.1, HI.out.2.1⟩)⟩
      · have hle : ((T.size f : Nat) : Int) < size := by unfold Dsk.size; omega
        go_enter Tryz.func35, Tryz.ntmps35
        go_wp2_with (first
        | (go_at_call 49; refine he.mono ?_; rintro e w1 ⟨rfl, h1⟩; obtain ⟨Fa, ⟨xa, ia, ea⟩, oa, fa, ra⟩ := h1; have c6 := ia.blk.cell 6; have hcr := dCrash_own ia; rw [hTT] at hcr; have HJ := Lib.hid (And.intro ea (And.intro oa (And.intro fa ra))); clear ia ea oa fa ra)
        | (go_at_call 20; refine hcr.mono ?_; rintro e w1 ⟨rfl, h1⟩; have h1 := DiskTo.trans HJ.out.2.1 HJ.out.2.2.1 HJ.out.2.2.2 (by rw [HJ.out.1]; exact h1); obtain ⟨F1, ⟨x1, i1, e1⟩, o1, f1, r1⟩ := h1; have hm := dmay_c ⟨x1, i1, rfl⟩ f; rw [hmay] at hm; obtain ⟨c0, _, _, c3, _, _, _⟩ := i1.cells; have hlk := i1.look f; have z3 := i1.blk.frozen 3; have hsz := dSize_c ⟨x1, i1, rfl⟩ f; have HI := Lib.hid (And.intro i1 (And.intro e1 (And.intro o1 (And.intro f1 r1)))); clear i1 e1 o1 f1 r1)
        | (go_at_call 46; refine hm.mono ?_; rintro e w' ⟨rfl, rfl⟩)
        | (go_at_call 27; refine hsz.mono ?_; rintro e w' ⟨rfl, rfl⟩)
        | (go_at_call 51; refine hst.mono ?_; rintro e w5 ⟨rfl, h5⟩))
        go_ret
        rw [Hp.out]
        exact ⟨rfl, DiskTo.trans HI.out.2.2.1 HI.out.2.2.2.1 HI.out.2.2.2.2 (.same ⟨_, HI.out.1, HI.out.2.1⟩)⟩
    · have Hp := Lib.hid (show T.truncate0 f size = (T.settle f ((T.file f).1.take size.toNat), 0) from by simp [Dsk.truncate0, hmay, hlo])
      have hmz := Dsk.may_zero hmay
      have h0 : 0 ≤ size := by omega
      have h1 : size ≤ ((T.size f : Nat) : Int) := by unfold Dsk.size; omega
      have h2 : size ≤ ((T.file f).1.length : Int) := by omega
      clear hlo
      go_enter Tryz.func35, Tryz.ntmps35
      go_wp2_with (first
        | (go_at_call 49; refine he.mono ?_; rintro e w1 ⟨rfl, h1⟩; obtain ⟨Fa, ⟨xa, ia, ea⟩, oa, fa, ra⟩ := h1; have c6 := ia.blk.cell 6; have hcr := dCrash_own ia; rw [hTT] at hcr; have HJ := Lib.hid (And.intro ea (And.intro oa (And.intro fa ra))); clear ia ea oa fa ra)
        | (go_at_call 20; refine hcr.mono ?_; rintro e w1 ⟨rfl, h1⟩; have h1 := DiskTo.trans HJ.out.2.1 HJ.out.2.2.1 HJ.out.2.2.2 (by rw [HJ.out.1]; exact h1); obtain ⟨F1, ⟨x1, i1, e1⟩, o1, f1, r1⟩ := h1; have hm := dmay_c ⟨x1, i1, rfl⟩ f; rw [hmay] at hm; obtain ⟨c0, _, _, c3, _, _, _⟩ := i1.cells; have hlk := i1.look f; have z3 := i1.blk.frozen 3; have hsz := dSize_c ⟨x1, i1, rfl⟩ f; have hst := dsettle_c ⟨x1, i1, rfl⟩ f ((T.file f).1.take size.toNat) hmz.2.1 hmz.2.2 (by have := (hok.lens f).1; simp; omega); have HI := Lib.hid (And.intro i1 (And.intro e1 (And.intro o1 (And.intro f1 r1)))); clear i1 e1 o1 f1 r1)
        | (go_at_call 46; refine hm.mono ?_; rintro e w' ⟨rfl, rfl⟩)
        | (go_at_call 27; refine hsz.mono ?_; rintro e w' ⟨rfl, rfl⟩)
        | (go_at_call 51; refine hst.mono ?_; rintro e w5 ⟨rfl, h5⟩))
      go_ret
      rw [Hp.out]
      exact ⟨rfl, DiskTo.trans HI.out.2.2.1 HI.out.2.2.2.1 HI.out.2.2.2.2 (by rw [HI.out.2.1]; exact h5)⟩
  · have Hp := Lib.hid (show T.truncate0 f size = (T, T.may f) from by simp [Dsk.truncate0, hmay])
    have hmb : (T.may f != 0) = true := by simp [hmay]
    go_enter Tryz.func35, Tryz.ntmps35
    go_wp2_with (first
        | (go_at_call 49; refine he.mono ?_; rintro e w1 ⟨rfl, h1⟩; obtain ⟨Fa, ⟨xa, ia, ea⟩, oa, fa, ra⟩ := h1; have c6 := ia.blk.cell 6; have hcr := dCrash_own ia; rw [hTT] at hcr; have HJ := Lib.hid (And.intro ea (And.intro oa (And.intro fa ra))); clear ia ea oa fa ra)
        | (go_at_call 20; refine hcr.mono ?_; rintro e w1 ⟨rfl, h1⟩; have h1 := DiskTo.trans HJ.out.2.1 HJ.out.2.2.1 HJ.out.2.2.2 (by rw [HJ.out.1]; exact h1); obtain ⟨F1, ⟨x1, i1, e1⟩, o1, f1, r1⟩ := h1; have hm := dmay_c ⟨x1, i1, rfl⟩ f; obtain ⟨c0, _, _, c3, _, _, _⟩ := i1.cells; have hlk := i1.look f; have z3 := i1.blk.frozen 3; have hsz := dSize_c ⟨x1, i1, rfl⟩ f; have HI := Lib.hid (And.intro i1 (And.intro e1 (And.intro o1 (And.intro f1 r1)))); clear i1 e1 o1 f1 r1)
        | (go_at_call 46; refine hm.mono ?_; rintro e w' ⟨rfl, rfl⟩)
        | (go_at_call 27; refine hsz.mono ?_; rintro e w' ⟨rfl, rfl⟩)
        | (go_at_call 51; refine hst.mono ?_; rintro e w5 ⟨rfl, h5⟩))
    go_ret
    rw [Hp.out]
    exact ⟨rfl, DiskTo.trans HI.out.2.2.1 HI.out.2.2.2.1 HI.out.2.2.2.2 (.same ⟨_, HI.out.1, HI.out.2.1⟩)⟩

theorem dSync_c (h : IsDisk w b D F) (f : Int) :
    Calls Tryz.prog 33 #[.pointer (some ⟨b, 0, none⟩), .int .i64 f] w fun e w' => e = .returned (.int .i64 (D.sync f).2) ∧ DiskTo w b F (D.sync f).1 w' := by
  cases he : D.ends with
  | false => exact dSync_false h f he
  | true => exact dSync_true h f he
theorem dTruncate_c (h : IsDisk w b D F) (f size : Int) (hs : I64 size) :
    Calls Tryz.prog 35 #[.pointer (some ⟨b, 0, none⟩), .int .i64 f, .int .i64 size] w fun e w' => e = .returned (.int .i64 (D.truncate f size).2) ∧ DiskTo w b F (D.truncate f size).1 w' := by
  cases he : D.ends with
  | false => exact dTruncate_false h f size he hs
  | true => exact dTruncate_true h f size he hs
end
end Go.Proofs.YtlnadcihnfppaaaGreatDoor
