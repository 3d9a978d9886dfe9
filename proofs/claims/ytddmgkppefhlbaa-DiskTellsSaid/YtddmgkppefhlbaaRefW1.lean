/-
  The reference's disk, walked: get, set, pending and the small calls.
-/
import Derived.Test.YtddmgkppefhlbaaRefRep
import Derived.Test.YtddmgkppefhlbaaDskW3
namespace Go.Proofs.Ytddmgkppefhlbaa
set_option linter.unusedVariables false
set_option linter.unusedSimpArgs false
set_option linter.unusedSectionVars false
open Go.RowKit

section
variable {w : World} {b : Nat} {D : Dsk} {F : Foot}

theorem fileCells_cons (y : Int × Str × Str) (l : List (Int × Str × Str)) : fileCells (y :: l) = .int .i64 y.1 :: strV y.2.1 :: strV y.2.2 :: fileCells l := rfl
theorem fileCells_get : ∀ (l : List (Int × Str × Str)) (j : Nat) (hj : j < l.length), (fileCells l)[j * 3]? = some (.int .i64 l[j].1) ∧ (fileCells l)[j * 3 + 1]? = some (strV l[j].2.1) ∧ (fileCells l)[j * 3 + 2]? = some (strV l[j].2.2)
  | [], j, hj => by simp at hj
  | p :: q, 0, _ => ⟨rfl, rfl, rfl⟩
  | p :: q, j + 1, hj => by
    have := fileCells_get q j (by simpa using hj)
    rw [fileCells_cons, show (j + 1) * 3 = j * 3 + 1 + 1 + 1 by omega]
    simpa using this
theorem rlook_none {f : Int} : ∀ {l : List (Int × Str × Str)}, (∀ y ∈ l, y.1 ≠ f) → rlook f l = ([], [])
  | [], _ => rfl
  | y :: l, h => by
    unfold rlook
    rw [if_neg (h y (by simp))]
    exact rlook_none fun z hz => h z (by simp [hz])
theorem rlook_get {f : Int} : ∀ {l : List (Int × Str × Str)} {j : Nat} (hj : j < l.length), (∀ y ∈ l.take j, y.1 ≠ f) → l[j].1 = f → rlook f l = l[j].2
  | y :: l, 0, _, _, h => by
    unfold rlook
    rw [if_pos (by simpa using h)]
    rfl
  | y :: l, j + 1, hj, h, h2 => by
    unfold rlook
    rw [if_neg (h y (by simp))]
    exact rlook_get (by simpa using hj) (fun z hz => h z (by simp [hz])) h2

set_option maxHeartbeats 1000000 in
theorem rget_c (h : IsRef w b D F) (f : Int) : Calls Try.prog 39 #[.pointer (some ⟨b, 0, none⟩), .int .i64 f] w fun e w' => e = .returned (.agg #[.int .i64 f, strV (D.file f).1, strV (D.file f).2]) ∧ Below w.heap.size w w' := by
  obtain ⟨x, h, _⟩ := h
  obtain ⟨A, c, e, hc1, hc2, hr⟩ := Reads.of_own h.fo
  have ha := h.abs f
  have hl := h.len
  obtain ⟨d0, _⟩ := h.cells
  rw [e] at d0
  have hbl := h.blk.lt
  have hne : ¬ b = w.heap.size := by omega
  have HR := Lib.hid hr
  have HA := Lib.hid ha
  clear h ha hr
  go_enter Try.func39, Try.ntmps39
  go_wp2
  go_loopw [5] (fun v wr => ∃ j : Nat, j ≤ x.fl.length ∧ v = .int .i64 (j : Int) ∧ (∀ y ∈ x.fl.take j, y.1 ≠ f) ∧ Below w.heap.size w wr ∧ Blk wr w.heap.size 65 #[.int .i64 0, strV [], strV []]) (fun v _ => x.fl.length - (intOf v).toNat)
  case atStart => exact ⟨0, by omega, by go_num, by simp, (Below.refl _ _).alloc (Nat.le_refl _) _, Blk.new w _ _⟩
  case round =>
    obtain ⟨j, hj, rfl, hn, hB, hK⟩ := hrel
    have e0 := (hB.cell (p := ⟨b, 0, none⟩) hbl).trans d0
    have k0 := hK.cell 0
    have k1 := hK.cell 1
    have k2 := hK.cell 2
    have z0 := hK.frozen 0
    have z1 := hK.frozen 1
    have z2 := hK.frozen 2
    have HB := Lib.hid hB
    have HK := Lib.hid hK
    clear hB hK
    by_cases hlt : j < x.fl.length
    · obtain ⟨g, off, rfl, _, hg, hcc⟩ := HR.out.form (by omega) (by decide)
      obtain ⟨c0, c1, c2⟩ := fileCells_get x.fl j hlt
      have q0 : _ = _ := (HB.out.cell (p := ⟨g, off + j * 3, none⟩) hg).trans (hcc _ _ c0)
      have q1 : _ = _ := (HB.out.cell (p := ⟨g, off + j * 3 + 1, none⟩) hg).trans (hcc _ _ c1)
      have q2 : _ = _ := (HB.out.cell (p := ⟨g, off + j * 3 + 2, none⟩) hg).trans (hcc _ _ c2)
      clear c0 c1 c2 hcc
      by_cases hf : x.fl[j].1 = f
      · have hb : (x.fl[j].1 == f) = true := by simp [hf]
        have hrl := Lib.hid (rlook_get hlt hn hf)
        go_wp2
        refine bodyPost_ret (results_cell_row rfl _ _ w.heap.size 65 #[.int .i64 f, strV x.fl[j].2.1, strV x.fl[j].2.2] (0, 0) _ rfl ?_ Try.underlying65 rfl (by kernel_rfl)) rfl ?_
        · have := ((HK.out.set_ 0 (.int .i64 f)).set_ 1 (strV x.fl[j].2.1)).set_ 2 (strV x.fl[j].2.2)
          exact this
        · refine ⟨by rw [← HA.out, hrl.out], (((HB.out.setCell (p := ⟨w.heap.size, 0, none⟩) (Nat.le_refl _) _).setCell (p := ⟨w.heap.size, 1, none⟩) (Nat.le_refl _) _).setCell (p := ⟨w.heap.size, 2, none⟩) (Nat.le_refl _) _)⟩
      · have hb : (x.fl[j].1 == f) = false := by simp [hf]
        have Hn := Lib.hid hn
        clear hn
        go_wp2
        go_roundw
        case rel =>
          refine ⟨j + 1, by omega, by go_num, fun y hy => ?_, HB.out, HK.out⟩
          rw [List.take_add_one, List.getElem?_eq_getElem hlt] at hy
          rcases List.mem_append.1 hy with hy | hy
          · exact Hn.out y hy
          · simp at hy; rw [hy]; exact hf
        case measure => simp [intOf]; omega
    · have hrl := Lib.hid (rlook_none (f := f) (l := x.fl) (by rw [List.take_of_length_le (by omega)] at hn; exact hn))
      clear hn
      go_wp2
      refine bodyPost_ret (results_cell_row rfl _ _ w.heap.size 65 #[.int .i64 f, strV [], strV []] (0, 0) _ rfl ?_ Try.underlying65 rfl (by kernel_rfl)) rfl ?_
      · have := ((HK.out.set_ 0 (.int .i64 f)).set_ 1 (strV [])).set_ 2 (strV [])
        exact this
      · refine ⟨by rw [← HA.out, hrl.out], (((HB.out.setCell (p := ⟨w.heap.size, 0, none⟩) (Nat.le_refl _) _).setCell (p := ⟨w.heap.size, 1, none⟩) (Nat.le_refl _) _).setCell (p := ⟨w.heap.size, 2, none⟩) (Nat.le_refl _) _)⟩

set_option maxHeartbeats 400000 in
theorem rDown_c (h : IsRef w b D F) : Calls Try.prog 15 #[.pointer (some ⟨b, 0, none⟩)] w fun e w' => e = .returned (.bool D.down) ∧ w = w' := by
  obtain ⟨x, h, _⟩ := h
  obtain ⟨_, _, _, h3, _, _⟩ := h.cells
  clear h
  go_enter Try.func15, Try.ntmps15
  go_wp2
  go_ret
  exact ⟨rfl, rfl⟩

set_option maxHeartbeats 400000 in
theorem rSize_c (h : IsRef w b D F) (f : Int) : Calls Try.prog 17 #[.pointer (some ⟨b, 0, none⟩), .int .i64 f] w fun e w' => e = .returned (.int .i64 (D.size f)) ∧ Below w.heap.size w w' := by
  have hg := rget_c h f
  go_enter Try.func17, Try.ntmps17
  go_wp2_with (go_at_call 39; refine hg.mono ?_; rintro e w' ⟨rfl, hB⟩)
  go_ret
  exact ⟨rfl, hB⟩

set_option maxHeartbeats 400000 in
theorem rmay_c (h : IsRef w b D F) (f : Int) : Calls Try.prog 46 #[.pointer (some ⟨b, 0, none⟩), .int .i64 f] w fun e w' => e = .returned (.int .i64 (D.may f)) ∧ w = w' := by
  obtain ⟨x, h, _⟩ := h
  obtain ⟨_, _, _, h4, _, _⟩ := h.cells
  clear h
  cases hd : D.down with
  | true =>
    have e : D.may f = 8 := by simp [Dsk.may, hd]
    rw [e]
    rw [hd] at h4
    clear hd e
    go_enter Try.func46, Try.ntmps46
    go_wp2
    go_ret
    exact ⟨rfl, rfl⟩
  | false =>
    rw [hd] at h4
    by_cases hf : f < 0 ∨ 16 ≤ f
    · have e : D.may f = 1 := by simp [Dsk.may, hd, hf]
      rw [e]
      clear hd e
      go_enter Try.func46, Try.ntmps46
      go_wp2
      all_goals (go_ret; exact ⟨rfl, rfl⟩)
    · have e : D.may f = 0 := by simp [Dsk.may, hd, hf]
      rw [e]
      have h0 : 0 ≤ f := by omega
      have h1 : f < 16 := by omega
      clear hd e hf
      go_enter Try.func46, Try.ntmps46
      go_wp2
      go_ret
      exact ⟨rfl, rfl⟩

set_option maxHeartbeats 400000 in
theorem rStart_c (h : IsRef w b D F) : Calls Try.prog 37 #[.pointer (some ⟨b, 0, none⟩)] w fun e w' => e = .returned (.tuple #[]) ∧ RefTo w b F D.start w' := by
  obtain ⟨x, h, hF⟩ := h
  obtain ⟨_, _, _, h4, _, _⟩ := h.cells
  have hf := h.blk.frozen 3
  have Hx := Lib.hid (h.store (D' := D.start) 3 (.bool false) rfl rfl rfl rfl h.ok.start)
  clear h
  go_enter Try.func37, Try.ntmps37
  go_wp2
  go_end0
  exact ⟨rfl, Hx.out.to ((Only.refl F.m w).setCell (.inl (by rw [hF]; exact .inl rfl)) _) hF fun k hk => .inl hk⟩

set_option maxHeartbeats 400000 in
theorem rLose_c (h : IsRef w b D F) (n : Int) (hn : I64 n) : Calls Try.prog 34 #[.pointer (some ⟨b, 0, none⟩), .int .i64 n] w fun e w' => e = .returned (.tuple #[]) ∧ RefTo w b F (D.lose n) w' := by
  obtain ⟨x, h, hF⟩ := h
  obtain ⟨_, _, h3, _, _, _⟩ := h.cells
  have hf := h.blk.frozen 2
  have HF := Lib.hid hF
  have Hx := fun u e => h.store (D' := D.lose n) 2 (.int .i64 u) (by rw [show u = (D.lose n).lost from e]; rfl) rfl rfl rfl (h.ok.lose n hn)
  have hx := Lib.hid Hx
  clear Hx hF h
  go_enter Try.func34, Try.ntmps34
  go_wp2
  all_goals
    go_end0
    exact ⟨rfl, (hx.out _ (by simp only [Dsk.lose]; omega)).to ((Only.refl F.m w).setCell (.inl (by rw [HF.out]; exact .inl rfl)) _) HF.out fun k hk => .inl hk⟩
end
end Go.Proofs.Ytddmgkppefhlbaa
