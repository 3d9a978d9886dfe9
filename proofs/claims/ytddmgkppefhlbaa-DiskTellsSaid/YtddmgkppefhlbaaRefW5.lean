/-
  The reference's disk, walked: settle, Read, Arm, New.
-/
import Derived.Test.YtddmgkppefhlbaaRefW4
import Derived.Test.YtddmgkppefhlbaaDskW2
namespace Go.Proofs.Ytddmgkppefhlbaa
set_option linter.unusedVariables false
set_option linter.unusedSimpArgs false
set_option linter.unusedSectionVars false
open Go.RowKit

section
variable {w : World} {b : Nat} {D : Dsk} {F : Foot}

def qless (f : Int) (q : List (Int × Int)) : List (Int × Int) := q.filter fun p => !(p.1 == f)

set_option maxRecDepth 100000 in
set_option maxHeartbeats 2000000 in
theorem rsettle_c (h : IsRef w b D F) (f : Int) (s : Str) (h0 : 0 ≤ f) (h1 : f < 16) (hs : s.length ≤ 16777216) :
    Calls Try.prog 51 #[.pointer (some ⟨b, 0, none⟩), .int .i64 f, strV s] w fun e w' => e = .returned (.tuple #[]) ∧ RefTo w b F (D.settle f s) w' := by
  have hst := rset_c h f s s h0 h1 ⟨hs, hs⟩
  have HST := Lib.hid hst
  clear hst h
  go_enter Try.func51, Try.ntmps51
  go_wp2_with fail
  refine HST.out.mono ?_
  rintro e w1 ⟨rfl, F1, ⟨x, hx, hF1⟩, o1, f1, r1⟩
  obtain ⟨A, c, e, hc1, hc2, hr⟩ := Reads.of_own hx.own
  have hql := hx.ok.qlen
  obtain ⟨_, d1, _⟩ := hx.cells
  rw [e] at d1
  have hbl := hx.blk.lt
  have z1 := hx.blk.frozen 1
  have HR := Lib.hid hr
  have HX := Lib.hid hx
  have HO := Lib.hid (And.intro hF1 (And.intro o1 (And.intro f1 r1)))
  obtain ⟨ti, hti, hz0, hz1, hz2⟩ := info_parts info_RSec
  clear hr hx hF1 o1 f1 r1
  go_wp2_with fail
  go_loopw [6, 7] (fun v i wr => ∃ k : Nat, k ≤ D.queue.length ∧ i = .int .i64 (k : Int) ∧ wr.ownsRow w1.heap.size 78 2 v (qless f (D.queue.take k)).length (secCells (qless f (D.queue.take k))) ∧ Below w1.heap.size w1 wr) (fun _ i _ => D.queue.length - (intOf i).toNat)
  case atStart => exact ⟨0, by omega, by go_num, by simpa [qless, secCells] using World.ownsRow_nil _ _ _ _, Below.refl _ _⟩
  case round =>
    obtain ⟨k, hk, rfl, hown, hB⟩ := hrel
    have e0 := (hB.cell (p := ⟨b, 1, none⟩) hbl).trans d1
    have e9 := (hB.frozen (p := ⟨b, 1, none⟩) hbl).trans z1
    have hwb := hB.size
    have HB := Lib.hid hB
    have HOWN := Lib.hid hown
    obtain ⟨Av, cv, rfl, hv1, hv2, _⟩ := Reads.of_own hown
    have hrl : (qless f (D.queue.take k)).length ≤ 4194320 := by
      have := List.length_filter_le (fun p : Int × Int => !(p.1 == f)) (D.queue.take k)
      have h2 := List.length_take_le' k D.queue
      unfold qless
      omega
    clear hB hown
    by_cases hlt : k < D.queue.length
    · obtain ⟨g, off, rfl, _, hg, hcc⟩ := HR.out.form (by omega) (by decide)
      obtain ⟨c0, c1⟩ := secCells_get D.queue k hlt
      have q0 : _ = _ := (HB.out.cell (p := ⟨g, off + k * 2, none⟩) hg).trans (hcc _ _ c0)
      have q1 : _ = _ := (HB.out.cell (p := ⟨g, off + k * 2 + 1, none⟩) hg).trans (hcc _ _ c1)
      clear c0 c1 hcc
      have hst := filter_take_step (fun p : Int × Int => !(p.1 == f)) D.queue k hlt
      by_cases hf : D.queue[k].1 = f
      · have hb : (D.queue[k].1 != f) = false := by simp [hf]
        have hb2 : (!(D.queue[k].1 == f)) = false := by simp [hf]
        simp only [hb2, Bool.false_eq_true, if_false, List.append_nil] at hst
        have HST2 := Lib.hid (show qless f (D.queue.take (k + 1)) = qless f (D.queue.take k) from hst)
        clear hst hf hb2
        go_wp2_with fail
        go_roundw
        case rel => exact ⟨k + 1, by omega, by go_num, by rw [HST2.out]; exact HOWN.out, HB.out⟩
        case measure => simp [intOf]; omega
      · have hb : (D.queue[k].1 != f) = true := by simp [hf]
        have hb2 : (!(D.queue[k].1 == f)) = true := by simp [hf]
        simp only [hb2, if_true] at hst
        have HST2 := Lib.hid (show qless f (D.queue.take (k + 1)) = qless f (D.queue.take k) ++ [D.queue[k]] from hst)
        clear hst hf hb2
        go_wp2_with (at_builtin; (refine wpList_append_any _ rfl (.tmp 33) (.tmp 41) _ rfl w1.heap.size 78 ti _ 2 16 Try.underlying58 hti hz0 hz1 hz2 rfl (by decide) (.slice Av (qless f (D.queue.take k)).length cv) _ _ rfl (own_only HOWN.out ((Only.refl NoF wr).alloc (.cells #[.int .i64 D.queue[k].1, .int .i64 D.queue[k].2] 78)) fun _ _ h => h) _ _ 1 1 _ rfl (reads_made wr 78 2 1 [.int .i64 D.queue[k].1, .int .i64 D.queue[k].2] rfl) (by intro u hu; simp at hu; rcases hu with rfl | rfl <;> rfl) (by unfold maxLen; omega) (by omega) (by simp; omega) ?_); intro v' w4 hown1 hgrow hat)
        have hOW : ∀ j, (Value.slice Av (qless f (D.queue.take k)).length cv).ownBlock = some j → w1.heap.size ≤ j := fun j hj => (HOWN.out.lt j hj).1
        have G1 := Lib.hid (show w4.ownsRow w1.heap.size 78 2 v' (qless f (D.queue.take (k + 1))).length (secCells (qless f (D.queue.take (k + 1)))) by rw [HST2.out, secCells_append', List.length_append]; exact hown1)
        have G2 := Lib.hid (belowG (HB.out.alloc hwb _) hgrow (by simp; omega) fun j hj => hOW j hj)
        clear hown1 hgrow hat hOW
        go_roundw
        case rel => exact ⟨k + 1, by omega, by go_num, G1.out, G2.out⟩
        case measure => simp [intOf]; omega
    · obtain rfl : k = D.queue.length := by omega
      have HX2 := Lib.hid (show wr.ownsRow w1.heap.size 78 2 (.slice Av (qless f D.queue).length cv) (qless f D.queue).length (secCells (qless f D.queue)) by have := HOWN.out; rw [List.take_length] at this; exact this)
      have eT : qless f (D.queue.take D.queue.length) = qless f D.queue := by rw [List.take_length]
      rw [eT]
      clear HOWN eT
      go_wp2_with fail
      go_end0
      refine ⟨rfl, ?_⟩
      have hok : (D.settle f s).Ok := by
        have := HX.out.ok
        exact { lens := this.lens, out := this.out, q := fun p hp => this.q p (List.mem_filter.1 hp).1, nodup := this.nodup.filter _, lost := this.lost, armed := this.armed, keep := this.keep }
      have hfin := requeue_fin (D' := D.settle f s) (v := .slice Av (qless f D.queue).length cv) HX.out (Only.of_below HB.out (Nat.le_refl _)) (fun j hj => .inr (HX2.out.lt j hj).1) (own_base HX2.out (Nat.zero_le _)) rfl rfl rfl rfl rfl hok
      exact RefTo.trans HO.out.2.1 HO.out.2.2.1 HO.out.2.2.2 (by rw [HO.out.1]; exact hfin)

set_option maxRecDepth 100000 in
set_option maxHeartbeats 1000000 in
theorem rRead_c (h : IsRef w b D F) (f at_ size : Int) (ha : I64 at_) (hs : I64 size) : Calls Try.prog 21 #[.pointer (some ⟨b, 0, none⟩), .int .i64 f, .int .i64 at_, .int .i64 size] w
    fun e w' => e = .returned (.tuple #[strV (D.read f at_ size).1, .int .i64 (D.read f at_ size).2]) ∧ Only NoF w w' := by
  unfold I64 at ha hs
  have hm := rmay_c h f
  have hg := rget_c h f
  have hok := (by obtain ⟨x, i, _⟩ := h; exact i.ok.lens f : (D.file f).1.length ≤ 16777216 ∧ (D.file f).2.length ≤ 16777216).1
  by_cases h1 : D.may f = 0
  · rw [h1] at hm
    by_cases h2 : at_ < 0 ∨ size < 0
    · have Hp := Lib.hid (show D.read f at_ size = ([], 1) from by simp [Dsk.read, h1, h2])
      clear h1 h hg
      go_enter Try.func21, Try.ntmps21
      go_wp2_with (go_at_call 46; refine hm.mono ?_; rintro e w' ⟨rfl, rfl⟩)
      all_goals (go_ret2; rw [Hp.out]; exact ⟨rfl, Only.refl _ _⟩)
    · have Hp := Lib.hid (show D.read f at_ size = (Dsk.readS (D.file f).1 at_.toNat size.toNat, 0) from by simp [Dsk.read, h1, h2])
      obtain ⟨a, rfl⟩ : ∃ a : Nat, at_ = a := ⟨at_.toNat, by omega⟩
      obtain ⟨n, rfl⟩ : ∃ n : Nat, size = n := ⟨size.toNat, by omega⟩
      have HM := Lib.hid hm
      have HG := Lib.hid hg
      clear h1 h2 h hm hg
      generalize (D.file f).1 = s at HG Hp hok
      by_cases h3 : a < s.length
      · have h3' : ¬ ((s.length : Int) ≤ (a : Int)) := by omega
        by_cases h4 : (s.length : Int) - (a : Int) < (n : Int)
        · go_enter Try.func21, Try.ntmps21
          go_wp2_with fail
          refine HM.out.mono ?_
          rintro e w' ⟨rfl, rfl⟩
          go_wp2_with fail
          refine HG.out.mono ?_
          rintro e w1 ⟨rfl, hB⟩
          have B := Lib.hid hB
          clear hB
          go_wp2_with fail
          go_ret2
          rw [Hp.out]
          refine ⟨ret_str2 ?_ rfl, Only.of_below B.out (Nat.le_refl _)⟩
          simp only [Dsk.readS, Int.toNat_natCast]
          first | rfl | (rw [List.take_of_length_le (by simp; omega), List.take_of_length_le (by simp; omega)]) | (simp; omega)
        · go_enter Try.func21, Try.ntmps21
          go_wp2_with fail
          refine HM.out.mono ?_
          rintro e w' ⟨rfl, rfl⟩
          go_wp2_with fail
          refine HG.out.mono ?_
          rintro e w1 ⟨rfl, hB⟩
          have B := Lib.hid hB
          clear hB
          go_wp2_with fail
          go_ret2
          rw [Hp.out]
          refine ⟨ret_str2 ?_ rfl, Only.of_below B.out (Nat.le_refl _)⟩
          simp only [Dsk.readS, Int.toNat_natCast]
          rw [show a + n - a = n by omega]
      · have h3' : ((s.length : Int) ≤ (a : Int)) := by omega
        go_enter Try.func21, Try.ntmps21
        go_wp2_with fail
        refine HM.out.mono ?_
        rintro e w' ⟨rfl, rfl⟩
        go_wp2_with fail
        refine HG.out.mono ?_
        rintro e w1 ⟨rfl, hB⟩
        have B := Lib.hid hB
        clear hB
        go_wp2_with fail
        go_ret2
        rw [Hp.out]
        refine ⟨ret_str2 ?_ rfl, Only.of_below B.out (Nat.le_refl _)⟩
        simp [Dsk.readS, List.drop_eq_nil_of_le (show s.length ≤ a by omega)]
  · have Hp := Lib.hid (show D.read f at_ size = ([], D.may f) from by simp [Dsk.read, h1])
    have h2 : (D.may f != 0) = true := by simp [h1]
    clear h1 h hg
    go_enter Try.func21, Try.ntmps21
    go_wp2_with (go_at_call 46; refine hm.mono ?_; rintro e w' ⟨rfl, rfl⟩)
    go_ret2
    rw [Hp.out]
    exact ⟨rfl, Only.refl _ _⟩

theorem new_ref (w : World) : IsRefW (w.alloc (.cells #[.slice none 0 0, .slice none 0 0, .int .i64 0, .bool false, .int .i64 0, .slice none 0 0] 60)) w.heap.size Dsk.init { fv := .slice none 0 0, q := .slice none 0 0, kp := .slice none 0 0, fl := [] } := {
  blk := Blk.new w _ _
  fo := World.ownsRow_nil _ _ _ _
  own := World.ownsRow_nil _ _ _ _
  kpo := World.ownsRow_nil _ _ _ _
  abs := fun _ => rfl
  keys := by simp
  fkey := by simp
  ok := Dsk.init_ok }

/-- behind New: a reference of new blocks -/
def NewRef (w : World) (b : Nat) (D : Dsk) (w' : World) : Prop := ∃ F, IsRef w' b D F ∧ Only NoF w w' ∧ ∀ k, F.all k → w.heap.size ≤ k
def NewRTo (w : World) (D : Dsk) (e : Ending) (w' : World) : Prop := ∃ b, e = .returned (.pointer (some ⟨b, 0, none⟩)) ∧ NewRef w b D w'

set_option maxHeartbeats 400000 in
theorem rNew_c (w : World) : Calls Try.prog 11 #[] w (NewRTo w Dsk.init) := by
  have H := Lib.hid (new_ref w)
  go_enter Try.func11, Try.ntmps11
  go_wp2
  go_ret
  refine ⟨_, rfl, _, ⟨_, H.out, rfl⟩, (Only.refl _ w).alloc _, fun k hk => ?_⟩
  rcases hk with (hk | hk | hk) | hk
  · omega
  · simp [Value.ownBlock] at hk
  · simp [Value.ownBlock] at hk
  · simp [RWit.foot, Value.ownBlock] at hk

theorem rearm_fin {x : RWit} {w1 : World} (h : IsRefW w b D x) {n : Int} (hn : I64 n) {keep : List Int} (hl : keep.length ≤ 1000) (ho : Only NoF (w.setCell ⟨b, 4, none⟩ (.int .i64 (max n 0))) w1) {A' : Option Addr} {c' : Nat}
    (hown : w1.ownsRow w.heap.size 3 1 (.slice A' keep.length c') keep.length (keep.map (Value.int .i64))) : RefTo w b (x.foot b) (D.arm n keep) (w1.setCell ⟨b, 5, none⟩ (.slice A' keep.length c')) := by
  obtain ⟨a1, a2, a3⟩ := h.apart
  have o1 : Only (oneF b) w w1 := ((Only.refl (oneF b) w).setCell (p := ⟨b, 4, none⟩) (.inl rfl) _).trans ho fun _ h => h.elim
  have hb1 := (h.blk.set_ 4 (.int .i64 (max n 0))).only ho id
  have hbl := h.blk.lt
  have o2 : Only (oneF b) w1 (w1.setCell ⟨b, 5, none⟩ (.slice A' keep.length c')) := (Only.refl (oneF b) w1).setCell (p := ⟨b, 5, none⟩) (.inl rfl) _
  have o3 : Only (oneF b) w (w1.setCell ⟨b, 5, none⟩ (.slice A' keep.length c')) := o1.trans' o2
  have hI : IsRefW (w1.setCell ⟨b, 5, none⟩ (.slice A' keep.length c')) b (D.arm n keep) { x with kp := .slice A' keep.length c' } := {
    blk := hb1.set_ 5 _
    fo := own_only h.fo o3 fun k hk => (a1 k hk).1
    own := own_only h.own o3 fun k hk => (a2 k hk).1
    kpo := own_only (own_base hown (Nat.zero_le _)) o2 fun k hk e => by
      have := (hown.lt k hk).1
      have e' : k = b := e
      omega
    abs := h.abs
    keys := h.keys
    fkey := h.fkey
    ok := h.ok.arm n hn keep hl }
  exact hI.to (o3.mono fun k hk => .inl hk) rfl (fun k hk => .inl hk) fun k hk => .inr (hown.lt k hk).1

set_option maxRecDepth 100000 in
set_option maxHeartbeats 1000000 in
theorem rArm_c (h : IsRef w b D F) (n : Int) (hn : I64 n) {S : Nat → Prop} {v : Value} {keep : List Int} (hk : Ints S w v keep) (hl : keep.length ≤ 1000) (hS : ∀ k, S k → k ≠ b) :
    Calls Try.prog 35 #[.pointer (some ⟨b, 0, none⟩), .int .i64 n, v] w fun e w' => e = .returned (.tuple #[]) ∧ RefTo w b F (D.arm n keep) w' := by
  obtain ⟨x, h, hF⟩ := h
  have HF := Lib.hid hF
  have H := Lib.hid h
  obtain ⟨A, cap, rfl, _, _, hr⟩ := hk.cells
  obtain ⟨_, _, _, _, d4, d5⟩ := h.cells
  have z4 := h.blk.frozen 4
  have z5 := h.blk.frozen 5
  have hbl := h.blk.lt
  obtain ⟨ti, hti, hz0, hz1, hz2⟩ := info_parts info_int
  obtain ⟨m, hm⟩ : ∃ m, m = max n 0 := ⟨_, rfl⟩
  have HM := Lib.hid hm
  have HW := Lib.hid (fun u : Value => (by
    have h0 : (w.setCell ⟨b, 4, none⟩ u).heap.size = w.heap.size := by simp [World.setCell]
    have := World.ownsRow_made (base := w.heap.size) (e := 3) (size := 1) (w.setCell ⟨b, 4, none⟩ u) #[] 0 (by omega) (Nat.zero_le _) rfl
    rw [h0] at this
    exact this : ((w.setCell ⟨b, 4, none⟩ u).alloc (.cells #[] 3)).ownsRow w.heap.size 3 1 (.slice (some ⟨w.heap.size, 0, none⟩) 0 0) 0 []))
  have HB := Lib.hid (fun u : Value => (h.blk.set_ 4 u).alloc (.cells #[] 3))
  have HR := Lib.hid (fun u : Value => hr.only (((Only.refl (oneF b) w).setCell (p := ⟨b, 4, none⟩) (.inl rfl) u).alloc (.cells #[] 3)) fun k hk e => hS k hk e)
  clear hF h hr hk hm hS
  by_cases hn0 : n < 0
  all_goals
    go_enter Try.func35, Try.ntmps35
    go_wp2_with (at_builtin; (refine wpList_append_any _ rfl (.tmp 12) (.tmp 13) _ rfl w.heap.size 3 ti _ 1 8 Try.underlying31 hti hz0 hz1 hz2 rfl (by decide) (.slice (some ⟨w.heap.size, 0, none⟩) 0 0) 0 [] rfl (HW.out _) S A keep.length cap _ rfl (HR.out _) (ints_oneCell _ _) (by unfold maxLen; omega) (by omega) (by simp [World.setCell]) ?_); intro v' w1 hown1 hgrow hat; simp only [Nat.zero_add, List.nil_append] at hown1; obtain ⟨A1, cc1, rfl, _, _, _⟩ := Reads.of_own hown1; have hgr := ((Only.refl NoF _).alloc _).grown hgrow (fun k hk => Or.inr (by have hk' : some w.heap.size = some k := hk; injection hk' with hk'; simp [World.setCell]; omega)); have B4 := Lib.hid (Blk.grown (HB.out _) hgrow (fun e => by have e' : some b = some w.heap.size := e; injection e' with e'; omega)); have e1 := B4.out.cell 5; have e2 := B4.out.frozen 5; have G1 := Lib.hid (And.intro hown1 hgr); clear hown1 hgrow hat hgr)
    go_end0
    refine ⟨rfl, ?_⟩
    rw [HF.out]
    refine rearm_fin H.out hn hl ?_ G1.out.1
    rcases Int.lt_or_le n 0 with hz | hz
    · rw [show max n 0 = 0 by omega]
      first | exact G1.out.2 | (exfalso; omega)
    · rw [show max n 0 = n by omega]
      first | exact G1.out.2 | (exfalso; omega)
end
end Go.Proofs.Ytddmgkppefhlbaa
