/-
  The reference's disk, walked: add.
-/
import Derived.Test.YtddmgkppefhlbaaRefW3
namespace Go.Proofs.Ytddmgkppefhlbaa
set_option linter.unusedVariables false
set_option linter.unusedSimpArgs false
set_option linter.unusedSectionVars false
open Go.RowKit

section
variable {w : World} {b : Nat} {D : Dsk} {F : Foot}

theorem secCells_append' (q q' : List (Int × Int)) : secCells (q ++ q') = secCells q ++ secCells q' := by simp [secCells]

/-- the queue is another row -/
theorem requeue_fin {x : RWit} {w4 : World} {D' : Dsk} {v : Value} (h : IsRefW w b D x) (ho : Only (fun k => x.q.ownBlock = some k) w w4) (hv : ∀ k, v.ownBlock = some k → x.q.ownBlock = some k ∨ w.heap.size ≤ k)
    (hown : w4.ownsRow 0 78 2 v D'.queue.length (secCells D'.queue)) (e1 : D'.file = D.file) (e2 : D'.lost = D.lost) (e3 : D'.down = D.down) (e4 : D'.armed = D.armed) (e5 : D'.keep = D.keep) (ok : D'.Ok) :
    RefTo w b (x.foot b) D' (w4.setCell ⟨b, 1, none⟩ v) := by
  obtain ⟨a1, a2, a3⟩ := h.apart
  have hb4 := h.blk.only ho fun e => (a2 b e).1 rfl
  have hf4 := own_only h.fo ho fun k hk hq => (a1 k hk).2.1 hq
  have hk4 := own_only h.kpo ho fun k hk hq => (a3 k hk).2.2 hq
  have o5 : Only (oneF b) w4 (w4.setCell ⟨b, 1, none⟩ v) := (Only.refl (oneF b) w4).setCell (p := ⟨b, 1, none⟩) (.inl rfl) _
  have hvb : ∀ k, v.ownBlock = some k → k ≠ b := fun k hk => by
    obtain ⟨cur, hc⟩ := own_type hown k hk
    exact hc.ne_ hb4 (by decide)
  have hI : IsRefW (w4.setCell ⟨b, 1, none⟩ v) b D' { x with q := v } := {
    blk := by rw [e2, e3, e4]; exact hb4.set_ 1 v
    fo := own_only hf4 o5 fun k hk => (a1 k hk).1
    own := own_only hown o5 fun k hk => hvb k hk
    kpo := by rw [e5]; exact own_only hk4 o5 fun k hk => (a3 k hk).1
    abs := by rw [e1]; exact h.abs
    keys := h.keys
    fkey := h.fkey
    ok := ok }
  refine hI.to (((ho.mono fun k hk => .inr (.inr hk))).setCell (p := ⟨b, 1, none⟩) (.inl (.inl rfl)) _) rfl fun k hk => ?_
  rcases hk with hk | hk | hk
  · exact .inl (.inl hk)
  · exact .inl (.inr (.inl hk))
  · rcases hv k hk with h1 | h1
    · exact .inl (.inr (.inr h1))
    · exact .inr h1

theorem RefTo.ok {w w1 : World} {D' : Dsk} (h : RefTo w b F D' w1) : D'.Ok := by
  obtain ⟨F', ⟨x, i, _⟩, _⟩ := h
  exact i.ok
theorem RefTo.more {w w1 w2 : World} {D' : Dsk} (h : RefTo w b F D' w1) (ho : Only NoF w1 w2) : RefTo w b F D' w2 := by
  obtain ⟨F', i, o, f, r⟩ := h
  exact ⟨F', i.only ho fun _ _ h => h, o.trans ho fun _ h => h.elim, f, r⟩

set_option maxRecDepth 100000 in
set_option maxHeartbeats 2000000 in
theorem radd_some (h : IsRef w b D F) (f : Int) (a : Nat) (s : Str) (h0 : 0 ≤ f) (h1 : f < 16) (h2 : a + s.length ≤ 16777216) (hs : s ≠ []) :
    Calls Try.prog 54 #[.pointer (some ⟨b, 0, none⟩), .int .i64 f, .int .i64 (a : Int), strV s] w fun e w' => e = .returned (.tuple #[]) ∧ RefTo w b F (D.add f a s) w' := by
  have hget := rget_c h f
  have hok : D.Ok := by obtain ⟨x, i, _⟩ := h; exact i.ok
  have hlf := hok.lens f
  have hput := fun W => rPut_c W (D.file f).1 s (a : Int) (by omega) (by omega) hlf.1 (by omega)
  have hpl := length_put_le (D.file f).1 a s 16777216 hlf.1 (fun _ => h2)
  have hbl : b < w.heap.size := by obtain ⟨x, i, _⟩ := h; exact i.blk.lt
  have H := Lib.hid h
  have HG := Lib.hid hget
  have HP := Lib.hid hput
  have hse : s.isEmpty = false := by simpa using hs
  have hsp : 0 < s.length := List.length_pos_iff.2 hs
  have Hs := Lib.hid hs
  clear h hget hput hs
  go_enter Try.func54, Try.ntmps54
  go_wp2_with (go_at_call 39; refine HG.out.mono ?_; rintro e w1 ⟨rfl, hB1⟩; have B1 := Lib.hid hB1; clear hB1)
  refine (HP.out _).mono ?_
  rintro e w2 ⟨rfl, ho2⟩
  rw [Int.toNat_natCast]
  have hK := (Blk.new w1 65 #[.int .i64 f, strV (D.file f).1, strV (D.file f).2]).only ho2 id
  have k0 := hK.cell 0
  have k1 := hK.cell 1
  have k2 := hK.cell 2
  have y0 := hK.frozen 0
  have y1 := hK.frozen 1
  have y2 := hK.frozen 2
  have hs1 := B1.out.size
  have O2 := Lib.hid (((Only.of_below (F := NoF) B1.out (Nat.le_refl _)).alloc (.cells #[.int .i64 f, strV (D.file f).1, strV (D.file f).2] 65)).trans' ho2)
  have HST := Lib.hid (fun u => rset_c (H.out.only (O2.out.setCell (p := ⟨w1.heap.size, 1, none⟩) (.inr hs1) u) fun _ _ h => h) f (put (D.file f).1 a s) (D.file f).2 h0 h1 ⟨hpl, hlf.2⟩)
  have OST := Lib.hid (fun u => O2.out.setCell (p := ⟨w1.heap.size, 1, none⟩) (.inr hs1) u)
  clear hK ho2
  go_wp2_with fail
  refine (HST.out _).mono ?_
  rintro e w3 ⟨rfl, h3⟩
  have R3 := Lib.hid (show RefTo w b F (D.wrote f a s 0) w3 by rw [Dsk.wrote_zero]; exact RefTo.trans ((OST.out _).mono fun _ h => h.elim) (fun _ hk => .inl hk) (fun _ hk => .inl hk) h3)
  have hcnt := Dsk.length_secs a s.length
  clear h3 k0 k1 k2 y0 y1 y2
  go_wp2_with fail
  go_loopw [9] (fun n wr => ∃ i : Nat, i ≤ (Dsk.secs a s.length).length ∧ n = .int .i64 ((a / 64 + i : Nat) : Int) ∧ RefTo w b F (D.wrote f a s i) wr) (fun n _ => a / 64 + (Dsk.secs a s.length).length - (intOf n).toNat)
  case atStart => exact ⟨0, by omega, by go_num, R3.out⟩
  case round =>
    obtain ⟨i, hi, rfl, hD⟩ := hrel
    have HD := Lib.hid hD
    clear hD
    obtain ⟨Fi, ⟨xi, hxi, hFi⟩, hOi, hFi2, hFi3⟩ := HD.out
    have Hxi := Lib.hid hxi
    have HFI := Lib.hid (And.intro hFi (And.intro hOi (And.intro hFi2 hFi3)))
    by_cases hlt : i < (Dsk.secs a s.length).length
    · have hpe := rpending_c ⟨xi, hxi, rfl⟩ f ((a / 64 + i : Nat) : Int)
      have hN : ((a / 64 + i : Nat) : Int) = (a : Int) / 64 + (i : Int) := by omega
      rw [hN] at hpe
      have HN := Lib.hid hN
      by_cases hq : (f, (a : Int) / 64 + (i : Int)) ∈ (D.wrote f a s i).queue
      · rw [decide_eq_true hq] at hpe
        have HPE := Lib.hid hpe
        have Hq := Lib.hid hq
        clear hpe hN hxi hFi hOi hFi2 hFi3 hq
        go_wp2_with fail
        refine HPE.out.mono ?_
        rintro e w' ⟨rfl, rfl⟩
        go_wp2_with fail
        go_roundw
        case rel =>
          refine ⟨i + 1, by omega, by go_num, ?_⟩
          rw [Dsk.wrote_succ D f a s i hlt, HN.out, Dsk.push, if_pos Hq.out]
          exact HD.out
        case measure => simp [intOf]; omega
      · rw [decide_eq_false hq] at hpe
        have HPE := Lib.hid hpe
        have Hq := Lib.hid hq
        obtain ⟨ti, hti, hz0, hz1, hz2⟩ := info_parts info_RSec
        obtain ⟨_, d1, _⟩ := hxi.cells
        have z1 := hxi.blk.frozen 1
        have hql := hxi.ok.qlen
        obtain ⟨Aq, cq, eq_, _, _, _⟩ := Reads.of_own hxi.own
        rw [eq_] at d1
        have EQ := Lib.hid eq_
        have hbw : b < wr.heap.size := hxi.blk.lt
        have hne : ¬ wr.heap.size = b := by omega
        clear hpe hN hxi hFi hOi hFi2 hFi3 hq eq_
        go_wp2_with fail
        refine HPE.out.mono ?_
        rintro e w' ⟨rfl, rfl⟩
        go_wp2_with (at_builtin; (refine wpList_append_any _ rfl (.tmp 45) (.tmp 49) _ rfl 0 78 ti _ 2 16 Try.underlying58 hti hz0 hz1 hz2 rfl (by decide) (.slice Aq (D.wrote f a s i).queue.length cq) _ _ rfl (own_only (by have := Hxi.out.own; rw [EQ.out] at this; exact this) ((Only.refl NoF wr).alloc (.cells #[.int .i64 f, .int .i64 ((a : Int) / 64 + (i : Int))] 78)) fun _ _ h => h) _ _ 1 1 _ rfl (reads_made wr 78 2 1 [.int .i64 f, .int .i64 ((a : Int) / 64 + (i : Int))] rfl) (by intro u hu; simp at hu; rcases hu with rfl | rfl <;> rfl) (by unfold maxLen; omega) (by omega) (Nat.zero_le _) ?_); intro v' w4 hown4 hgrow hat; obtain ⟨A1, cc1, rfl, _, _, _⟩ := Reads.of_own hown4; have o4 : Only (fun k => xi.q.ownBlock = some k) wr w4 := ((Only.refl _ wr).alloc _).grown hgrow (fun k hk => .inl (by rw [EQ.out]; exact hk)); have B4 := Lib.hid (Hxi.out.blk.only o4 (fun e => (Hxi.out.apart.2.1 b e).1 rfl)); have e1 := B4.out.cell 1; have e2 := B4.out.frozen 1; have O4 := Lib.hid o4; have G1 := Lib.hid (And.intro hown4 hat); clear hown4 hgrow hat o4)
        have hp : (D.wrote f a s (i + 1)) = { D.wrote f a s i with queue := (D.wrote f a s i).queue ++ [(f, (a : Int) / 64 + (i : Int))] } := by
          rw [Dsk.wrote_succ D f a s i hlt, HN.out, Dsk.push, if_neg Hq.out]
        have hok' := hok.wrote h0 h1 h2 (i + 1) (by omega)
        have hfin := requeue_fin (D' := D.wrote f a s (i + 1)) Hxi.out O4.out (fun j hj => by
          rcases G1.out.2 with e | e
          · rw [EQ.out, ← e]; exact .inl hj
          · refine .inr ?_
            have := hj.symm.trans e
            simp at this
            omega) (by rw [hp]; simp only [List.length_append, List.length_cons, List.length_nil, secCells_append']; exact G1.out.1) (by rw [hp]) (by rw [hp]) (by rw [hp]) (by rw [hp]) (by rw [hp]) hok'
        have HFIN := Lib.hid (RefTo.trans HFI.out.2.1 HFI.out.2.2.1 HFI.out.2.2.2 (by rw [HFI.out.1]; exact hfin))
        clear hfin hok' hp e1 e2
        go_roundw
        case rel => exact ⟨i + 1, by omega, by go_num, HFIN.out⟩
        case measure => simp [intOf]; omega
    · go_wp2_with fail
      go_end0
      refine ⟨rfl, ?_⟩
      rw [← Dsk.wrote_all D f a s Hs.out i (by omega)]
      exact HD.out

set_option maxHeartbeats 400000 in
theorem radd_c (h : IsRef w b D F) (f : Int) (a : Nat) (s : Str) (h0 : 0 ≤ f) (h1 : f < 16) (h2 : a + s.length ≤ 16777216) :
    Calls Try.prog 54 #[.pointer (some ⟨b, 0, none⟩), .int .i64 f, .int .i64 (a : Int), strV s] w fun e w' => e = .returned (.tuple #[]) ∧ RefTo w b F (D.add f a s) w' := by
  by_cases hs : s = []
  · have Hp := Lib.hid (show D.add f a s = D by simp [Dsk.add, hs])
    subst hs
    go_enter Try.func54, Try.ntmps54
    go_wp2
    refine bodyPost_ret (results_none rfl _ _ _) rfl ?_
    rw [Hp.out]
    exact ⟨rfl, .same h⟩
  · exact radd_some h f a s h0 h1 h2 hs

set_option maxHeartbeats 400000 in
theorem rfits_c (at_ : Int) (s : Str) (ha : I64 at_) (hs : s.length ≤ 1000000) : Calls Try.prog 53 #[.int .i64 at_, strV s] w fun e w' => e = .returned (.bool (decide (Dsk.fits at_ s))) ∧ w = w' := by
  unfold I64 at ha
  have h3 : (0 ≤ at_ ∧ at_ ≤ 16777216 ∧ at_ + s.length ≤ 16777216) ∨ at_ < 0 ∨ (0 ≤ at_ ∧ 16777216 < at_) ∨ (0 ≤ at_ ∧ at_ ≤ 16777216 ∧ 16777216 < at_ + s.length) := by omega
  rcases h3 with ⟨a, c, d⟩ | a | ⟨a, c⟩ | ⟨a, c, d⟩
  · have Hp := Lib.hid (show decide (Dsk.fits at_ s) = true from decide_eq_true ⟨a, c, d⟩)
    go_enter Try.func53, Try.ntmps53
    go_wp2
    go_ret
    rw [Hp.out]
    exact ⟨ret_bool (by first | (simp; done) | (simp; omega)), rfl⟩
  all_goals
    have Hp := Lib.hid (show decide (Dsk.fits at_ s) = false from decide_eq_false (by unfold Dsk.fits; omega))
    go_enter Try.func53, Try.ntmps53
    go_wp2
    go_ret
    rw [Hp.out]
    exact ⟨ret_bool (by first | (simp; done) | (simp; omega)), rfl⟩
end
end Go.Proofs.Ytddmgkppefhlbaa
