/-
  DiskSynced, walked: it returns true. No condition.
-/
import Derived.Test.YtddmgkppefhlbaaDskL4
import Derived.Test.YtddmgkppefhlbaaOpen
namespace Go.Proofs.Ytddmgkppefhlbaa
set_option linter.unusedVariables false
set_option linter.unusedSimpArgs false
set_option linter.unusedSectionVars false
open Go.RowKit

section
variable {w : World} {S : Nat → Prop} {v : Value} {l : List DAct}
/-- a slice of acts, empty or not: the address is asked for where there is an element -/
theorem Acts.formA (h : Acts S w v l) :
    ∃ A0 cap, v = .slice A0 l.length cap ∧ l.length ≤ cap ∧ cap ≤ maxLen ∧
      ∀ i (hi : i < l.length), ∃ b off A kc, A0 = some ⟨b, off, none⟩ ∧ l[i].keep.length ≤ kc ∧ kc ≤ maxLen ∧ I64 l[i].d ∧ I64 l[i].f ∧ I64 l[i].n ∧ l[i].s.length ≤ maxLen ∧
        ∀ w', Only NoF w w' → Ints S w' (.slice A l[i].keep.length kc) l[i].keep ∧
        w'.cell? ⟨b, off + i * 5, none⟩ = some (.int .i64 l[i].d) ∧ w'.cell? ⟨b, off + i * 5 + 1, none⟩ = some (.int .i64 l[i].f) ∧ w'.cell? ⟨b, off + i * 5 + 2, none⟩ = some (.int .i64 l[i].n) ∧
        w'.cell? ⟨b, off + i * 5 + 3, none⟩ = some (strV l[i].s) ∧ w'.cell? ⟨b, off + i * 5 + 4, none⟩ = some (.slice A l[i].keep.length kc) := by
  by_cases hl : 0 < l.length
  · obtain ⟨b, off, cap, e, h1, h2, h3⟩ := h.form5w hl
    refine ⟨_, cap, e, h1, h2, fun i hi => ?_⟩
    obtain ⟨A, kc, g⟩ := h3 i hi
    exact ⟨b, off, A, kc, rfl, g⟩
  · obtain ⟨A, cap, e, h1, h2⟩ := SliceOf.shape h
    exact ⟨A, cap, e, h1, h2, fun i hi => by omega⟩
theorem Acts.ns (h : Acts S w v l) : ∀ x ∈ l, I64 x.n := by
  obtain ⟨A, cap, xs, _, _, _, _, h4⟩ := h
  intro x hx
  obtain ⟨i, hi⟩ := List.getElem?_of_mem hx
  obtain ⟨_, _, _, _, h, _⟩ := h4 i x hi
  exact h
end

set_option maxRecDepth 100000 in
set_option maxHeartbeats 1000000 in
theorem synced_out (W : World) {vl vm vk : Value} {l more : List DAct} {keep : List Int} (hl : Acts (oldB W) W vl l) (f : Int) (hm : Acts (oldB W) W vm more) (hk : Ints (oldB W) W vk keep)
    (h : fewB l = false ∨ (fewB l = true ∧ fewB more = false) ∨ (fewB l = true ∧ fewB more = true ∧ 60 < keep.length)) :
    Calls Try.prog 5 #[vl, .int .i64 f, vm, vk] W (SmallTo W) := by
  have HL := Lib.hid hl
  have HM := Lib.hid hm
  obtain ⟨Ak, ck, rfl, k1, k2, _⟩ := hk.cells
  unfold maxLen at k2
  clear hl hm hk
  rcases h with h | ⟨h, h1⟩ | ⟨h, h1, h2⟩
  · have HF := Lib.hid h
    clear h
    go_enter Try.func5, Try.ntmps5
    go_wp2_with fail
    refine (small_c W).mono ?_
    rintro e w1 ⟨rfl, o1⟩
    have hfw := few_c (HL.out.only o1 fun _ _ h => h)
    rw [HF.out] at hfw
    have HFW := Lib.hid hfw
    have O1 := Lib.hid o1
    clear hfw o1
    go_wp2_with fail
    refine HFW.out.mono ?_
    rintro e w' ⟨rfl, rfl⟩
    go_wp2_with fail
    go_ret
    exact ⟨rfl, O1.out⟩
  all_goals
    have HF := Lib.hid h
    have HF1 := Lib.hid h1
    clear h h1
    go_enter Try.func5, Try.ntmps5
    go_wp2_with fail
    refine (small_c W).mono ?_
    rintro e w1 ⟨rfl, o1⟩
    have hfw := few_c (HL.out.only o1 fun _ _ h => h)
    have hfm := few_c (HM.out.only o1 fun _ _ h => h)
    rw [HF.out] at hfw
    rw [HF1.out] at hfm
    have HFW := Lib.hid hfw
    have HFM := Lib.hid hfm
    have O1 := Lib.hid o1
    clear hfw o1 hfm
    go_wp2_with fail
    refine HFW.out.mono ?_
    rintro e w' ⟨rfl, rfl⟩
    go_wp2_with fail
    refine HFM.out.mono ?_
    rintro e w' ⟨rfl, rfl⟩
    go_wp2_with fail
    go_ret
    exact ⟨rfl, O1.out⟩

set_option maxRecDepth 100000 in
set_option maxHeartbeats 1000000 in
theorem synced_no (W : World) {vl vm vk : Value} {l more : List DAct} {keep : List Int} (hl : Acts (oldB W) W vl l) (f : Int) (hm : Acts (oldB W) W vm more) (hk : Ints (oldB W) W vk keep)
    (h : fewB l = true) (h1 : fewB more = true) (h2 : keep.length ≤ 60) (h3 : ((Dsk.init.steps l).sync f).2 ≠ 0) :
    Calls Try.prog 5 #[vl, .int .i64 f, vm, vk] W (SmallTo W) := by
  have HL := Lib.hid hl
  have HM := Lib.hid hm
  obtain ⟨Ak, ck, rfl, k1, k2, _⟩ := hk.cells
  unfold maxLen at k2
  have HF := Lib.hid h
  have HF1 := Lib.hid h1
  have h3b : ((((Dsk.init.steps l).sync f).2) != 0) = true := by simpa using h3
  generalize hr : ((Dsk.init.steps l).sync f).2 = r at h3 h3b
  have HR := Lib.hid hr
  obtain ⟨sx, rx, hx⟩ : ∃ sx rx, (Dsk.init.steps l).read f 0 16777216 = (sx, rx) := ⟨_, _, rfl⟩
  have HX := Lib.hid hx
  clear hl hm hk h h1 hr hx
  go_enter Try.func5, Try.ntmps5
  go_wp2_with fail
  refine (small_c W).mono ?_
  rintro e w1 ⟨rfl, o1⟩
  have hA1 := HL.out.only o1 fun _ _ h => h
  have hfw := few_c hA1
  have hfm := few_c (HM.out.only o1 fun _ _ h => h)
  rw [HF.out] at hfw
  rw [HF1.out] at hfm
  have HFW := Lib.hid hfw
  have HFM := Lib.hid hfm
  have O1 := Lib.hid o1
  have HP := Lib.hid (played_c hA1 (fun k hk => Nat.lt_of_lt_of_le hk o1.size) (fewB_mem HF.out).1)
  clear hfw o1 hfm hA1
  go_wp2_with fail
  refine HFW.out.mono ?_
  rintro e w' ⟨rfl, rfl⟩
  go_wp2_with fail
  refine HFM.out.mono ?_
  rintro e w' ⟨rfl, rfl⟩
  go_wp2_with fail
  refine HP.out.mono ?_
  rintro e w2 ⟨d, rfl, n2⟩
  go_wp2_with fail
  refine (n2.read_ f 0 16777216 HX.out (by unfold I64; omega) (by unfold I64; omega)).mono ?_
  rintro e w' ⟨rfl, rfl⟩
  go_wp2_with fail
  refine (n2.sync_ f HR.out rfl).mono ?_
  rintro e w3 ⟨rfl, n3⟩
  have O3 := Lib.hid n3
  clear n2 n3
  go_wp2_with fail
  go_ret
  obtain ⟨_, _, o3, _⟩ := O3.out
  exact ⟨rfl, O1.out.trans' o3⟩

/-- what the rounds keep -/
def StillRel (w1 : World) (d : Nat) (f : Int) (x : Str) (w : World) : Prop := ∃ D, NewDisk w1 d D w ∧ Dsk.Still D f x

theorem NewDisk.ok {w0 w : World} {d : Nat} {D : Dsk} (h : NewDisk w0 d D w) : D.Ok := by
  obtain ⟨F, i, _⟩ := h
  exact i.ok

theorem NewDisk.do_ {w0 w : World} {d : Nat} {D : Dsk} (h : NewDisk w0 d D w) (a : DAct) {kv : Value} {S : Nat → Prop} (hk : Ints S w kv a.keep) (hn : I64 a.n) (hs : a.small) (hS : ∀ k, S k → k < w0.heap.size) :
    Calls Try.prog 12 #[.pointer (some ⟨d, 0, none⟩), .agg #[.int .i64 a.d, .int .i64 a.f, .int .i64 a.n, strV a.s, kv]] w (OnTo w0 d (D.step a).1 (.int .i64 (D.step a).2)) :=
  h.call fun F i hF => do_c i a hk hn hs fun k hk hm => by
    have := hS k hk
    have := hF k (.inl hm)
    omega

set_option maxRecDepth 100000 in
set_option maxHeartbeats 2000000 in
theorem synced_yes (W : World) {vl vm vk : Value} {l more : List DAct} {keep : List Int} (hl : Acts (oldB W) W vl l) (f : Int) (hm : Acts (oldB W) W vm more) (hk : Ints (oldB W) W vk keep)
    (h : fewB l = true) (h1 : fewB more = true) (h2 : keep.length ≤ 60) (h3 : ((Dsk.init.steps l).sync f).2 = 0) :
    Calls Try.prog 5 #[vl, .int .i64 f, vm, vk] W (SmallTo W) := by
  have hok : (Dsk.init.steps l).Ok := Dsk.init_ok.steps fun x hx => ⟨hl.ns x hx, ((fewB_mem h).1 x hx).2.1⟩
  obtain ⟨u1, u2, u3, u4, u5⟩ := Dsk.sync_still h3
  have hx1 := Dsk.read_all u1 u2 u3 hok
  have hx2 := Dsk.read_all u5 u2 u3 (hok.sync f)
  rw [u4.1] at hx2
  generalize hX : ((Dsk.init.steps l).file f).1 = X at hx1 hx2 u4
  have HX1 := Lib.hid hx1
  have HX2 := Lib.hid hx2
  have U4 := Lib.hid u4
  have HL := Lib.hid hl
  have HK := Lib.hid hk
  have HM0 := Lib.hid hm
  obtain ⟨Ak, ck, rfl, k1, k2, _⟩ := hk.cells
  unfold maxLen at k2
  obtain ⟨Am, cm, rfl, m1, m2, hmm⟩ := hm.formA
  unfold maxLen at m2
  have HM := Lib.hid hmm
  have HF := Lib.hid h
  have HF1 := Lib.hid h1
  have HR := Lib.hid h3
  have HI := Lib.hid (And.intro u2 u3)
  clear hl hk hm h h1 h3 hX hx1 hx2 u4 hmm hok u1 u2 u3 u5
  go_enter Try.func5, Try.ntmps5
  go_wp2_with fail
  refine (small_c W).mono ?_
  rintro e w1 ⟨rfl, o1⟩
  have hA1 := HL.out.only o1 fun _ _ h => h
  have hfw := few_c hA1
  have hfm := few_c (HM0.out.only o1 fun _ _ h => h)
  rw [HF.out] at hfw
  rw [HF1.out] at hfm
  have HFW := Lib.hid hfw
  have HFM := Lib.hid hfm
  have O1 := Lib.hid o1
  have HP := Lib.hid (played_c hA1 (fun k hk => Nat.lt_of_lt_of_le hk o1.size) (fewB_mem HF.out).1)
  clear hfw o1 hfm hA1
  go_wp2_with fail
  refine HFW.out.mono ?_
  rintro e w' ⟨rfl, rfl⟩
  go_wp2_with fail
  refine HFM.out.mono ?_
  rintro e w' ⟨rfl, rfl⟩
  go_wp2_with fail
  refine HP.out.mono ?_
  rintro e w2 ⟨d, rfl, n2⟩
  go_wp2_with fail
  refine (n2.read_ f 0 16777216 HX1.out (by unfold I64; omega) (by unfold I64; omega)).mono ?_
  rintro e w' ⟨rfl, rfl⟩
  go_wp2_with fail
  refine (n2.sync_ f HR.out rfl).mono ?_
  rintro e w3 ⟨rfl, n3⟩
  go_wp2_with fail
  refine (n3.read_ f 0 16777216 HX2.out (by unfold I64; omega) (by unfold I64; omega)).mono ?_
  rintro e w' ⟨rfl, rfl⟩
  have N3 := Lib.hid (show StillRel w1 d f X w3 from ⟨_, n3, U4.out⟩)
  clear n2 n3
  go_wp2_with fail
  go_loopw [15] (fun i wr => ∃ k : Nat, k ≤ more.length ∧ i = .int .i64 (k : Int) ∧ StillRel w1 d f X wr) (fun i _ => more.length - (intOf i).toNat)
  case atStart => exact ⟨0, by omega, by go_num, N3.out⟩
  case round =>
    obtain ⟨k, hkm, rfl, D, hD, hst⟩ := hrel
    have HD := Lib.hid hD
    have HST := Lib.hid hst
    clear hD hst
    by_cases hlt : k < more.length
    · obtain ⟨b, off, A, kc, rfl, g1, g2, g4, g5, g6, g7, hw⟩ := HM.out k hlt
      obtain ⟨_, _, od, _⟩ := HD.out
      obtain ⟨g3, c0, c1, c2, c3, c4⟩ := hw _ (O1.out.trans' od)
      unfold maxLen at g2 g7
      have hc := HD.out.do_ more[k] g3 g6 ((fewB_mem HF1.out).1 _ (List.getElem_mem hlt)) fun j hj => Nat.lt_of_lt_of_le hj O1.out.size
      have HC := Lib.hid hc
      have hb := bits_7 more[k].d
      clear hw g3 od hc
      have hcase : (more[k].d % 8 < 4 ∧ more[k].f ≠ f) ∨ more[k].d % 8 = 4 ∨ (more[k].d % 8 < 4 ∧ more[k].f = f) ∨ 4 < more[k].d % 8 := by omega
      rcases hcase with ⟨a1, a2⟩ | a1 | ⟨a1, a2⟩ | a1
      · have a3 : (more[k].f != f) = true := by simpa using a2
        have HN := Lib.hid (HST.out.step more[k] (.inl ⟨a1, a2⟩))
        clear a2
        go_wp2_with fail
        refine HC.out.mono ?_
        rintro e w4 ⟨rfl, n4⟩
        have N4 := Lib.hid n4
        clear n4
        go_wp2_with fail
        go_roundw
        case rel => exact ⟨k + 1, by omega, by go_num, _, N4.out, HN.out⟩
        case measure => simp [intOf]; omega
      · have HN := Lib.hid (HST.out.step more[k] (.inr a1))
        rw [a1] at hb
        clear a1
        go_wp2_with fail
        refine HC.out.mono ?_
        rintro e w4 ⟨rfl, n4⟩
        have N4 := Lib.hid n4
        clear n4
        go_wp2_with fail
        go_roundw
        case rel => exact ⟨k + 1, by omega, by go_num, _, N4.out, HN.out⟩
        case measure => simp [intOf]; omega
      · have a3 : (more[k].f != f) = false := by simpa using a2
        have a4 : (more[k].d % 8 == 4) = false := by simp; omega
        clear a2
        go_wp2_with fail
        go_roundw
        case rel => exact ⟨k + 1, by omega, by go_num, _, HD.out, HST.out⟩
        case measure => simp [intOf]; omega
      · have a3 : ¬ (more[k].d % 8 < 4) := by omega
        have a4 : (more[k].d % 8 == 4) = false := by simp; omega
        go_wp2_with fail
        go_roundw
        case rel => exact ⟨k + 1, by omega, by go_num, _, HD.out, HST.out⟩
        case measure => simp [intOf]; omega
    · obtain rfl : k = more.length := by omega
      obtain ⟨_, _, od, _⟩ := HD.out
      have hcr := HD.out.crash_ (HK.out.only (O1.out.trans' od) fun _ _ h => h) (by omega) (fun k hk => .inl (Nat.lt_of_lt_of_le hk O1.out.size)) rfl
      have HCR := Lib.hid hcr
      have HS2 := Lib.hid (HST.out.crash keep)
      clear od hcr
      go_wp2_with fail
      refine HCR.out.mono ?_
      rintro e w4 ⟨rfl, n4⟩
      go_wp2_with fail
      refine (n4.start_ rfl).mono ?_
      rintro e w5 ⟨rfl, n5⟩
      have hx3 := Dsk.read_all (D := (D.crash keep).start) rfl HI.out.1 HI.out.2 n5.ok
      have hfe : (D.crash keep).start.file f = (X, X) := HS2.out.1
      rw [hfe] at hx3
      have HX3 := Lib.hid hx3
      clear hx3 hfe
      go_wp2_with fail
      refine (n5.read_ f 0 16777216 HX3.out (by unfold I64; omega) (by unfold I64; omega)).mono ?_
      rintro e w' ⟨rfl, rfl⟩
      have N5 := Lib.hid n5
      clear n4 n5
      go_wp2_with fail
      go_ret
      obtain ⟨_, _, o5, _⟩ := N5.out
      exact ⟨rfl, O1.out.trans' o5⟩

theorem synced_c (W : World) {vl vm vk : Value} {l more : List DAct} {keep : List Int} (hl : Acts (oldB W) W vl l) (f : Int) (hf : I64 f) (hm : Acts (oldB W) W vm more) (hk : Ints (oldB W) W vk keep) :
    Calls Try.prog 5 #[vl, .int .i64 f, vm, vk] W (SmallTo W) := by
  cases h : fewB l with
  | false => exact synced_out W hl f hm hk (.inl h)
  | true =>
    cases h1 : fewB more with
    | false => exact synced_out W hl f hm hk (.inr (.inl ⟨h, h1⟩))
    | true =>
      by_cases h2 : keep.length ≤ 60
      · by_cases h3 : ((Dsk.init.steps l).sync f).2 = 0
        · exact synced_yes W hl f hm hk h h1 h2 h3
        · exact synced_no W hl f hm hk h h1 h2 h3
      · exact synced_out W hl f hm hk (.inr (.inr ⟨h, h1, by omega⟩))
end Go.Proofs.Ytddmgkppefhlbaa
