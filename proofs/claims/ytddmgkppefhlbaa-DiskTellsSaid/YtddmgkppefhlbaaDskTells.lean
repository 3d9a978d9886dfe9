/-
  DiskTells, walked: it returns true. No condition.
-/
import Derived.Test.YtddmgkppefhlbaaRefL
import Derived.Test.YtddmgkppefhlbaaDskL4
import Derived.Deep.RegionHeld3
namespace Go.Proofs.Ytddmgkppefhlbaa
set_option linter.unusedVariables false
set_option linter.unusedSimpArgs false
set_option linter.unusedSectionVars false
open Go.RowKit

section
variable {w0 w w1 : World} {d r : Nat} {D : Dsk}

/-- disk and reference, both standing for the same -/
abbrev Pair (w0 : World) (d r : Nat) (D : Dsk) (w : World) : Prop := Duo w0 (DiskT d D) (RefT r D) w

theorem Pair.read1 (h : Duo w0 (DiskT d D) (RefT r D) w) (f a n : Int) {s : Str} {x : Int} (hr : D.read f a n = (s, x)) (ha : I64 a) (hn : I64 n) :
    Calls Try.prog 20 #[.pointer (some ⟨d, 0, none⟩), .int .i64 f, .int .i64 a, .int .i64 n] w fun e w' => e = .returned (.tuple #[strV s, .int .i64 x]) ∧ w = w' := by
  obtain ⟨F, G, h1, _⟩ := h
  have := dRead_c h1 f a n ha hn
  rw [hr] at this
  exact this
def ReadTo (w : World) (u : Value) (e : Ending) (w' : World) : Prop := e = .returned u ∧ Only NoF w w'
theorem Pair.read2 (h : Duo w0 (DiskT d D) (RefT r D) w) (f a n : Int) {s : Str} {x : Int} (hr : D.read f a n = (s, x)) (ha : I64 a) (hn : I64 n) :
    Calls Try.prog 21 #[.pointer (some ⟨r, 0, none⟩), .int .i64 f, .int .i64 a, .int .i64 n] w (ReadTo w (.tuple #[strV s, .int .i64 x])) := by
  obtain ⟨F, G, _, h2, _⟩ := h
  have := rRead_c h2 f a n ha hn
  rw [hr] at this
  exact this
theorem Pair.down1 (h : Duo w0 (DiskT d D) (RefT r D) w) {x : Bool} (hr : D.down = x) : Calls Try.prog 14 #[.pointer (some ⟨d, 0, none⟩)] w (ReadTo w (.bool x)) := by
  subst hr
  obtain ⟨F, G, h1, _⟩ := h
  exact (dDown_c h1).mono fun e w' ⟨he, hw⟩ => ⟨he, by subst hw; exact Only.refl _ _⟩
theorem Pair.down2 (h : Duo w0 (DiskT d D) (RefT r D) w) {x : Bool} (hr : D.down = x) : Calls Try.prog 15 #[.pointer (some ⟨r, 0, none⟩)] w (ReadTo w (.bool x)) := by
  subst hr
  obtain ⟨F, G, _, h2, _⟩ := h
  exact (rDown_c h2).mono fun e w' ⟨he, hw⟩ => ⟨he, by subst hw; exact Only.refl _ _⟩
theorem Pair.size1 (h : Duo w0 (DiskT d D) (RefT r D) w) (f : Int) {x : Nat} (hr : D.size f = x) : Calls Try.prog 16 #[.pointer (some ⟨d, 0, none⟩), .int .i64 f] w (ReadTo w (.int .i64 (x : Int))) := by
  subst hr
  obtain ⟨F, G, h1, _⟩ := h
  exact (dSize_c h1 f).mono fun e w' ⟨he, hw⟩ => ⟨he, by subst hw; exact Only.refl _ _⟩
theorem Pair.size2 (h : Duo w0 (DiskT d D) (RefT r D) w) (f : Int) {x : Nat} (hr : D.size f = x) : Calls Try.prog 17 #[.pointer (some ⟨r, 0, none⟩), .int .i64 f] w (ReadTo w (.int .i64 (x : Int))) := by
  subst hr
  obtain ⟨F, G, _, h2, _⟩ := h
  exact (rSize_c h2 f).mono fun e w' ⟨he, hb⟩ => ⟨he, Only.of_below hb (Nat.le_refl _)⟩
theorem Pair.do1 {E : Dsk} {Y : Thing} (gY : Good Y) (h : Duo w0 (DiskT d E) Y w) (a : DAct) {kv : Value} {S : Nat → Prop} (hk : Ints S w kv a.keep) (hn : I64 a.n) (hs : a.small) (hS : ∀ k, S k → k < w0.heap.size) {x : Int} (hr : (E.step a).2 = x) :
    Calls Try.prog 12 #[.pointer (some ⟨d, 0, none⟩), .agg #[.int .i64 a.d, .int .i64 a.f, .int .i64 a.n, strV a.s, kv]] w (DuoTo w0 (DiskT d (E.step a).1) Y (.int .i64 x)) := by
  subst hr
  exact h.call gY fun F i hF => do_c i a hk hn hs fun k hk hm => by
    have := hS k hk
    have := hF k (.inl hm)
    omega
theorem Pair.do2 {E : Dsk} {X : Thing} (gX : Good X) (h : Duo w0 X (RefT r E) w) (a : DAct) {kv : Value} {S : Nat → Prop} (hk : Ints S w kv a.keep) (hn : I64 a.n) (hs : a.small) (hS : ∀ k, S k → k < w0.heap.size) {x : Int} (hr : (E.step a).2 = x) :
    Calls Try.prog 13 #[.pointer (some ⟨r, 0, none⟩), .agg #[.int .i64 a.d, .int .i64 a.f, .int .i64 a.n, strV a.s, kv]] w (DuoTo w0 X (RefT r (E.step a).1) (.int .i64 x)) := by
  subst hr
  exact h.calr gX fun F i hF => tell_c i a hk hn hs fun k hk hm => by
    have := hS k hk
    have := hF k (.inl hm)
    omega
def PairCopy (w0 : World) (d r : Nat) (D : Dsk) (e : Ending) (w' : World) : Prop := ∃ c, e = .returned (.pointer (some ⟨c, 0, none⟩)) ∧ Duo w0 (DiskT d D) (BothT (DiskT c D) (RefT r D)) w'
theorem Pair.copy (h : Duo w0 (DiskT d D) (RefT r D) w) : Calls Try.prog 18 #[.pointer (some ⟨d, 0, none⟩)] w (PairCopy w0 d r D) := by
  obtain ⟨F, H, i, j, o, f4, f5, f6, f7⟩ := h
  refine (dCopy_c i).mono ?_
  rintro e w' ⟨c, G, rfl, i1, o1, g1, g2⟩
  have hlt : ∀ k, F.all k → k < w.heap.size := i.lt
  have hlt2 := (refT_good r D).lt j
  have hs := o.size
  refine ⟨c, rfl, F, _, i.only o1 fun _ _ h => h, ⟨G, H, i1, j.only o1 fun _ _ h => h, fun k hk hh => ?_, fun k hk hg => ?_, rfl⟩, o.trans' o1, f4, fun k hk => ?_, fun k hk hg => ?_, fun k hk hf => ?_⟩
  · have := g1 k hk; have := hlt2 k hh; omega
  · rcases hg with hg | hg
    · have := g1 k hg; have := hlt2 k (.inl hk); omega
    · exact f7 k hk (.inr (g2 k hg))
  · rcases hk with (hk | hk) | (hk | hk)
    · have := g1 k hk; omega
    · exact f5 k (.inl hk)
    · exact f4 k (.inr (g2 k hk))
    · exact f5 k (.inr hk)
  · rcases hg with (hg | hg) | (hg | hg)
    · have := g1 k hg; have := hlt k (.inl hk); omega
    · exact f6 k hk (.inl hg)
    · exact i.mr hk (g2 k hg)
    · exact f6 k hk (.inr hg)
  · rcases hk with hk | hk
    · have := g1 k hk; have := hlt k hf; omega
    · exact f7 k hk hf
theorem Pair.drop {E : Dsk} {c : Nat} (h : Duo w0 (DiskT d E) (BothT (DiskT c D) (RefT r D)) w) : Duo w0 (DiskT c D) (RefT r D) w := by
  obtain ⟨F, _, _, ⟨G, H, i1, i2, a1, a2, rfl⟩, o, f4, f5, f6, f7⟩ := h
  exact ⟨G, H, i1, i2, o, fun k hk => f5 k (hk.elim (fun h => .inl (.inl h)) (fun h => .inr (.inl h))), fun k hk => f5 k (hk.elim (fun h => .inl (.inr h)) (fun h => .inr (.inr h))), a1, a2⟩
theorem Pair.keep (h : Duo w0 (DiskT d D) (RefT r D) w) (ho : Only NoF w w1) : Duo w0 (DiskT d D) (RefT r D) w1 := h.keep (diskT_good d D) (refT_good r D) ho
theorem new_pair {D : Dsk} (h : NewDisk w0 d D w) (h2 : NewRef w r D w1) : Duo w0 (DiskT d D) (RefT r D) w1 := by
  obtain ⟨F, i, o, f⟩ := h
  obtain ⟨G, i2, o2, f2⟩ := h2
  have hlt := i.lt
  have hs := o.size
  refine ⟨F, G, i.only o2 fun _ _ h => h, i2, o.trans' o2, f, fun k hk => by have := f2 k hk; omega, fun k hk hg => ?_, fun k hk hf => ?_⟩
  · have := hlt k (.inl hk); have := f2 k hg; omega
  · have := hlt k hf; have := f2 k (.inl hk); omega
end

set_option maxRecDepth 100000 in
set_option maxHeartbeats 1000000 in
theorem tells_out (W : World) {vl : Value} {l : List DAct} (hl : Acts (oldB W) W vl l) (f a n : Int) (h : fewB l = false) :
    Calls Try.prog 3 #[vl, .int .i64 f, .int .i64 a, .int .i64 n] W (SmallTo W) := by
  have HL := Lib.hid hl
  have HF := Lib.hid h
  clear hl h
  go_enter Try.func3, Try.ntmps3
  go_wp2_with fail
  refine (small_c W).mono ?_
  rintro e w1 ⟨rfl, o1⟩
  have hfw := few_c (HL.out.only o1 fun _ _ h => h)
  rw [HF.out] at hfw
  have HFW := Lib.hid hfw
  have O1 := Lib.hid o1
  clear hfw o1
  go_wp2_with fail
  refine HFW.out.mono ?_
  rintro e w' ⟨rfl, rfl⟩
  go_wp2_with fail
  go_ret
  exact ⟨rfl, O1.out⟩

def TellRel (w1 : World) (dv : Value) (r : Nat) (w : World) : Prop := ∃ d D, dv = .pointer (some ⟨d, 0, none⟩) ∧ Duo w1 (DiskT d D) (RefT r D) w

set_option maxRecDepth 100000 in
set_option maxHeartbeats 4000000 in
theorem tells_in (W : World) {vl : Value} {l : List DAct} (hl : Acts (oldB W) W vl l) (f a n : Int) (ha : I64 a) (hn : I64 n) (h : fewB l = true) :
    Calls Try.prog 3 #[vl, .int .i64 f, .int .i64 a, .int .i64 n] W (SmallTo W) := by
  have HL := Lib.hid hl
  obtain ⟨Am, cm, rfl, m1, m2, hmm⟩ := hl.formA
  unfold maxLen at m2
  have HM := Lib.hid hmm
  have HF := Lib.hid h
  have hfl := (fewB_mem h).2
  have HA := Lib.hid ha
  have HN := Lib.hid hn
  clear hl h hmm ha hn
  go_enter Try.func3, Try.ntmps3
  go_wp2_with fail
  refine (small_c W).mono ?_
  rintro e w1 ⟨rfl, o1⟩
  have hA1 := HL.out.only o1 fun _ _ h => h
  have hfw := few_c hA1
  rw [HF.out] at hfw
  have HFW := Lib.hid hfw
  have O1 := Lib.hid o1
  clear hfw o1 hA1
  go_wp2_with fail
  refine HFW.out.mono ?_
  rintro e w' ⟨rfl, rfl⟩
  go_wp2_with fail
  refine (dNew_c w1).mono ?_
  rintro e w2 ⟨d, rfl, n2⟩
  go_wp2_with fail
  refine (rNew_c w2).mono ?_
  rintro e w3 ⟨r, rfl, n3⟩
  have P3 := Lib.hid (show TellRel w1 (.pointer (some ⟨d, 0, none⟩)) r w3 from ⟨d, _, rfl, new_pair n2 n3⟩)
  clear n2 n3
  go_wp2_with fail
  go_loopw [10, 12] (fun q i wr => ∃ k : Nat, k ≤ l.length ∧ i = .int .i64 (k : Int) ∧ TellRel w1 q r wr) (fun _ i _ => l.length - (intOf i).toNat)
  case atStart => exact ⟨0, by omega, by go_num, P3.out⟩
  case round =>
    obtain ⟨k, hkm, rfl, dd, D, rfl, hP⟩ := hrel
    have HP := Lib.hid hP
    have HO := Lib.hid (O1.out.trans' hP.out)
    clear hP
    by_cases hlt : k < l.length
    · obtain ⟨b, off, A, kc, rfl, g1, g2, g4, g5, g6, g7, hw⟩ := HM.out k hlt
      obtain ⟨g3, x0, x1, x2, x3, x4⟩ := hw _ HO.out
      have HW := Lib.hid hw
      have HSM := Lib.hid ((fewB_mem HF.out).1 _ (List.getElem_mem hlt))
      unfold maxLen at g2 g7
      obtain ⟨xr, hxr⟩ : ∃ xr, (D.step l[k]).2 = xr := ⟨_, rfl⟩
      have HXR := Lib.hid hxr
      have HC1 := Lib.hid (Pair.do1 (refT_good r D) (HP.out.keep (diskT_good dd D) (refT_good r D) ((Only.refl NoF wr).drew)) l[k] (g3.only ((Only.refl NoF wr).drew) fun _ _ h => h) g6 HSM.out (fun j hj => Nat.lt_of_lt_of_le hj O1.out.size) hxr)
      generalize hDE : (D.step l[k]).1 = E at HC1
      obtain ⟨bd, hbd⟩ : ∃ bd, E.down = bd := ⟨_, rfl⟩
      obtain ⟨sz, hsz⟩ : ∃ sz, E.size f = sz := ⟨_, rfl⟩
      have HDE := Lib.hid hDE
      have HBD := Lib.hid hbd
      have HSZ := Lib.hid hsz
      have hmid : ((k : Int) == (l.length : Int) / 2) = true ∨ ((k : Int) == (l.length : Int) / 2) = false := by
        cases ((k : Int) == (l.length : Int) / 2) with
        | true => exact .inl rfl
        | false => exact .inr rfl
      have HMID := Lib.hid hmid
      clear hw g3 hxr hDE hbd hsz hmid
      go_wp2_with fail
      go_region_held3 (fun w' => w'.cell? ⟨b, off + k * 5, none⟩ = some (.int .i64 l[k].d) ∧ w'.cell? ⟨b, off + k * 5 + 1, none⟩ = some (.int .i64 l[k].f) ∧ w'.cell? ⟨b, off + k * 5 + 2, none⟩ = some (.int .i64 l[k].n) ∧ w'.cell? ⟨b, off + k * 5 + 3, none⟩ = some (strV l[k].s) ∧ w'.cell? ⟨b, off + k * 5 + 4, none⟩ = some (.slice A l[k].keep.length kc))
        (first | go_keep | exact K2.out | exact K3.out | exact K4.out | exact K5.out | exact K6.out | exact K7.out)
        (first
          | (go_at_call 12; refine HC1.out.mono ?_; rintro e w4 ⟨rfl, p4⟩; obtain ⟨g3', y⟩ := HW.out _ (O1.out.trans' p4.out); have K2 := Lib.hid y; have HC2 := Lib.hid (Pair.do2 (diskT_good dd E) p4 l[k] g3' g6 HSM.out (fun j hj => Nat.lt_of_lt_of_le hj O1.out.size) HXR.out); rw [HDE.out] at HC2; clear g3' y p4)
          | (go_at_call 13; refine HC2.out.mono ?_; rintro e w5 ⟨rfl, p5⟩; have K3 := Lib.hid (HW.out _ (O1.out.trans' p5.out)).2; have P5 := Lib.hid p5; clear p5)
          | (go_at_call 14; refine (Pair.down1 P5.out HBD.out).mono ?_; rintro e w6 ⟨rfl, o6⟩; have K4 := Lib.hid (HW.out _ (O1.out.trans' (P5.out.out.trans' o6))).2; have P6 := Lib.hid (P5.out.keep (diskT_good dd E) (refT_good r E) o6); clear o6)
          | (go_at_call 15; refine (Pair.down2 P6.out HBD.out).mono ?_; rintro e w7 ⟨rfl, o7⟩; have K5 := Lib.hid (HW.out _ (O1.out.trans' (P6.out.out.trans' o7))).2; have P7 := Lib.hid (P6.out.keep (diskT_good dd E) (refT_good r E) o7); clear o7)
          | (go_at_call 16; refine (Pair.size1 P7.out f HSZ.out).mono ?_; rintro e w8 ⟨rfl, o8⟩; have K6 := Lib.hid (HW.out _ (O1.out.trans' (P7.out.out.trans' o8))).2; have P8 := Lib.hid (P7.out.keep (diskT_good dd E) (refT_good r E) o8); clear o8)
          | (go_at_call 17; refine (Pair.size2 P8.out f HSZ.out).mono ?_; rintro e w9 ⟨rfl, o9⟩; have K7 := Lib.hid (HW.out _ (O1.out.trans' (P8.out.out.trans' o9))).2; have P9 := Lib.hid (P8.out.keep (diskT_good dd E) (refT_good r E) o9); clear o9))
      clear x0 x1 x2 x3 x4
      rcases HMID.out with hmb | hmb
      · obtain ⟨b2, off2, A2, kc2, heq, g12, g22, g42, g52, g62, g72, hw2⟩ := HM.out 0 (by omega)
        simp only [Option.some.injEq, Addr.mk.injEq, and_true] at heq
        obtain ⟨rfl, rfl⟩ := heq
        simp only [Nat.zero_mul, Nat.add_zero] at hw2
        have HW2 := Lib.hid hw2
        have HSM2 := Lib.hid ((fewB_mem HF.out).1 _ (List.getElem_mem (show 0 < l.length by omega)))
        unfold maxLen at g22 g72
        clear hw2
        go_wp2_with fail
        refine (Pair.copy P9.out).mono ?_
        rintro e w10 ⟨c, rfl, t10⟩
        obtain ⟨g32, y0, y1, y2, y3, y4⟩ := HW2.out _ (O1.out.trans' t10.out)
        have HC10 := Lib.hid (Pair.do1 (BothT.good (diskT_good c E) (refT_good r E)) t10 l[0] g32 g62 HSM2.out (fun j hj => Nat.lt_of_lt_of_le hj O1.out.size) rfl)
        clear g32 t10
        go_wp2_with fail
        refine HC10.out.mono ?_
        rintro e w11 ⟨rfl, t11⟩
        have HC11 := Lib.hid (t11.call (BothT.good (diskT_good c E) (refT_good r E)) fun F i _ => dSync_c i f)
        clear t11 y0 y1 y2 y3 y4
        go_wp2_with fail
        refine HC11.out.mono ?_
        rintro e w12 ⟨rfl, t12⟩
        have T12 := Lib.hid (Pair.drop t12)
        clear t12
        go_wp2_with fail
        go_roundw
        case rel => exact ⟨k + 1, by omega, by go_num, c, E, rfl, T12.out⟩
        case measure => simp [intOf]; omega
      · go_wp2_with fail
        go_roundw
        case rel => exact ⟨k + 1, by omega, by go_num, dd, E, rfl, P9.out⟩
        case measure => simp [intOf]; omega
    · obtain rfl : k = l.length := by omega
      obtain ⟨sx, rx, hx⟩ : ∃ sx rx, D.read f a n = (sx, rx) := ⟨_, _, rfl⟩
      have HX := Lib.hid hx
      clear hx
      go_wp2_with fail
      refine (Pair.read1 HP.out f a n HX.out HA.out HN.out).mono ?_
      rintro e w' ⟨rfl, rfl⟩
      go_wp2_with fail
      refine (Pair.read2 HP.out f a n HX.out HA.out HN.out).mono ?_
      rintro e w4 ⟨rfl, o4⟩
      have O4 := Lib.hid (HO.out.trans' o4)
      clear o4
      go_wp2_with fail
      go_ret
      exact ⟨rfl, O4.out⟩

theorem tells_c (W : World) {vl : Value} {l : List DAct} (hl : Acts (oldB W) W vl l) (f : Int) (hf : I64 f) (a : Int) (ha : I64 a) (n : Int) (hn : I64 n) :
    Calls Try.prog 3 #[vl, .int .i64 f, .int .i64 a, .int .i64 n] W (SmallTo W) := by
  cases h : fewB l with
  | false => exact tells_out W hl f a n h
  | true => exact tells_in W hl f a n ha hn h
end Go.Proofs.Ytddmgkppefhlbaa
