/-
  The link's Run, walked. Condition: at most 1,000,000 elements.
-/
import Derived.Test.YtocbfobakmieoaaLkW17
namespace Go.Proofs.Ytocbfobakmieoaa
set_option linter.unusedVariables false
set_option linter.unusedSimpArgs false
set_option linter.unusedSectionVars false
open Go.RowKit

def RunTo (w : World) (r : Air × List Msg × List Int) (e : Ending) (w' : World) : Prop :=
  ∃ v m es, e = .returned (.tuple #[v, m, es]) ∧ (OwnAir w.heap.size w' v r.1 ∧ AirOk r.1) ∧ SliceOf (fun k => w.heap.size ≤ k) 3 RMsg w' m r.2.1 ∧ SliceOf (fun k => w.heap.size ≤ k) 1 RInt w' es r.2.2 ∧ Only NoF w w'
theorem Msgs.ownB {w : World} {v : Value} {base b : Nat} {l : List Msg} (h : w.ownsRow base 27 3 v l.length (msgCells l)) (hb : b ≤ base) (hm : ∀ m ∈ l, MsgOk m) : SliceOf (fun k => b ≤ k) 3 RMsg w v l :=
  (SliceOf.of_own (R := RMsg) h fun i x hx => by
    obtain ⟨hi, rfl⟩ := List.getElem?_eq_some_iff.1 hx
    exact ⟨msgCells_get l i hi, hm _ (List.getElem_mem hi)⟩).sup fun k hk => Nat.le_trans hb (h.lt k hk).1
theorem Errs.ownB {w : World} {v : Value} {base b : Nat} {l : List Int} (h : w.ownsRow base 32 1 v l.length (errCells l)) (hb : b ≤ base) (hm : ∀ n ∈ l, I64 n) : SliceOf (fun k => b ≤ k) 1 RInt w v l :=
  (SliceOf.of_own (R := RInt) h fun i x hx => by
    obtain ⟨hi, rfl⟩ := List.getElem?_eq_some_iff.1 hx
    refine ⟨?_, hm _ (List.getElem_mem hi)⟩
    rw [errCells, Nat.mul_one, List.drop_eq_getElem_cons (by simpa using hi)]
    simp).sup fun k hk => Nat.le_trans hb (h.lt k hk).1
theorem airNone (w : World) : AirV w (.agg #[.slice none 0 0, .slice none 0 0]) Lnk.none_ := ⟨_, _, rfl, SliceOf.nil_ _ _ _, SliceOf.nil_ _ _ _⟩
theorem right_few {a : Air} (h : Lnk.right a = true) (hc : a.cs.length ≤ 1000000) : Few_ a := ⟨by have := (Lnk.right_iff.1 h).2.2.1; omega, hc⟩
theorem insC_len (c : Pr) (l : List Pr) : (Lnk.insC c l).length = l.length + 1 := by
  have := Lnk.posC_le c l
  simp only [Lnk.insC, List.length_append, List.length_cons, List.length_take, List.length_drop]
  omega
theorem next_cuts (a : Air) (e : Ev) : (Lnk.next a e).cs.length ≤ a.cs.length + 1 := by
  unfold Lnk.next
  split
  · unfold Lnk.do_
    split
    · unfold Lnk.send Lnk.with_; split <;> (try split) <;> simp [Lnk.none_]
    split
    · unfold Lnk.deliver; split <;> (try split) <;> simp [Lnk.none_, Lnk.without]
    split
    · unfold Lnk.lose; split <;> simp [Lnk.none_, Lnk.without]
    split
    · unfold Lnk.double Lnk.with_; split <;> (try split) <;> simp [Lnk.none_]
    split
    · unfold Lnk.cut; split <;> (try split) <;> simp [Lnk.none_, insC_len]
    split
    · unfold Lnk.heal; split <;> (try split) <;> simp [Lnk.none_]
      exact Nat.le_trans (List.length_filter_le _ _) (by omega)
    · simp [Lnk.none_]
  · omega
theorem runs_cuts (a : Air) (l : List Ev) : (Lnk.runs a l).1.cs.length ≤ a.cs.length + l.length := by
  induction l generalizing a with
  | nil => simp [Lnk.runs]
  | cons e l ih =>
    have := ih (Lnk.next a e)
    have := next_cuts a e
    simp only [Lnk.runs, List.length_cons]
    omega
theorem do_one (a : Air) (e : Ev) : (Lnk.do_ a e).2.1.length ≤ 1 := by
  unfold Lnk.do_
  repeat' split
  all_goals simp
theorem runs_came (a : Air) (l : List Ev) : (Lnk.runs a l).2.1.length ≤ l.length := by
  induction l generalizing a with
  | nil => simp [Lnk.runs]
  | cons e l ih =>
    have := ih (Lnk.next a e)
    have := do_one a e
    simp only [Lnk.runs, List.length_append, List.length_cons]
    omega
theorem do_I64 (a : Air) (e : Ev) : I64 (Lnk.do_ a e).2.2 := by
  have h : ∀ n : Int, 0 ≤ n → n ≤ 10 → I64 n := fun n h1 h2 => by unfold I64; omega
  have hb : ∀ i, 0 ≤ Lnk.bad a i ∧ Lnk.bad a i ≤ 10 := fun i => by unfold Lnk.bad; split <;> (try split) <;> omega
  have key : 0 ≤ (Lnk.do_ a e).2.2 ∧ (Lnk.do_ a e).2.2 ≤ 10 := by
    have := hb e.a
    unfold Lnk.do_ Lnk.send Lnk.deliver Lnk.lose Lnk.double Lnk.cut Lnk.heal Lnk.with_
    repeat' split
    all_goals simp only
    all_goals omega
  exact h _ key.1 key.2


section
variable {w : World} {v1 v2 : Value}
set_option maxRecDepth 100000 in
set_option maxHeartbeats 1000000 in
theorem nRun_c {a : Air} {l : List Ev} (h1 : AirV w v1 a) (h2 : Evs w v2 l) (hc : a.cs.length + l.length ≤ 1000000) : Calls Try.prog 24 #[v1, v2] w (RunTo w (Lnk.run a l)) := by
  have H := Lib.hid h1
  obtain ⟨u1, u2, rfl, hm0, hc0⟩ := h1
  clear hm0 hc0
  obtain ⟨A, cap, rfl, m1, m2, hf⟩ := Evs.form h2
  have HF := Lib.hid hf
  unfold maxLen at m2
  have HCH := Lib.hid (fun (W : World) (o : Only NoF ((w.alloc (.cells #[u1, u2] 25)).alloc (.cells #[.slice none 0 0, .slice none 0 0] 25)) W) => (((Only.refl NoF w).alloc _).alloc _).trans' o)
  have HN := Lib.hid (fun (W : World) o => (Blk.new2 w (.cells #[u1, u2] 25) 25 #[.slice none 0 0, .slice none 0 0]).keep (w' := W) o)
  clear h2 hf
  cases hr : Lnk.right a with
  | false =>
    have HE := Lib.hid (show Lnk.run a l = (Lnk.none_, [], []) by unfold Lnk.run; rw [if_pos hr])
    have HR := Lib.hid (nRightA_of H.out hr)
    clear hr
    go_enter Try.func24, Try.ntmps24
    go_wp2_with fail
    refine (HR.out _ (HCH.out _ (Only.refl _ _))).mono ?_
    rintro e w2 ⟨rfl, o1⟩
    obtain ⟨x0, x1, x2, x3⟩ := (HN.out _ o1).two
    have O1 := Lib.hid o1
    clear o1
    go_wp2
    refine bodyPost_ret (results_row_tmp2 rfl _ _ (w.heap.size + 1) 25 #[.slice none 0 0, .slice none 0 0] (0, 0) _ rfl ((HN.out _ O1.out).put2 _ _) Try.underlying25 rfl (by kernel_rfl)) rfl ?_
    rw [HE.out]
    exact ⟨_, _, _, rfl, ⟨ownNone _ _, okNone⟩, SliceOf.nil_ _ _ _, SliceOf.nil_ _ _ _, (HCH.out _ O1.out).put2 (by omega) _ _⟩
  | true =>
    have HE := Lib.hid (show Lnk.run a l = Lnk.runs a l by unfold Lnk.run; rw [if_neg (by simp [hr])])
    have HR := Lib.hid (nRightA_of H.out hr)
    have HRT := Lib.hid hr
    have HCL := Lib.hid (fun (W : World) (hW : Only NoF w W) => nclone_c (AirV.keep H.out hW) (right_few hr (by omega)))
    clear hr
    go_enter Try.func24, Try.ntmps24
    go_wp2_with fail
    refine (HR.out _ (HCH.out _ (Only.refl _ _))).mono ?_
    rintro e w2 ⟨rfl, o1⟩
    obtain ⟨c1, f1, s1⟩ := o1.rules
    have O1 := Lib.hid o1
    clear o1
    go_wp2_with fail
    refine (HCL.out _ (HCH.out _ O1.out)).mono ?_
    rintro e w3 ⟨vv, rfl, ⟨y1, y2, rfl, r1, r2⟩, o3⟩
    obtain ⟨E1, e1, rfl, _, _, _⟩ := Reads.of_own r1
    obtain ⟨E2, e2, rfl, _, _, _⟩ := Reads.of_own r2
    have hs2 : w.heap.size + 1 + 1 ≤ w2.heap.size := by simpa using s1
    have OA := Lib.hid (OwnAir.low (base' := w.heap.size + 1 + 1) (show OwnAir _ w3 (.agg #[.slice E1 a.ms.length e1, .slice E2 a.cs.length e2]) a from ⟨_, _, rfl, r1, r2⟩) hs2)
    have N3 := Lib.hid (HN.out _ (O1.out.trans' o3))
    obtain ⟨x0, x1, x2, x3⟩ := N3.out.two
    have O3 := Lib.hid (HCH.out _ (O1.out.trans' o3))
    clear o3 r1 r2 c1 f1 s1
    have HST := Lib.hid (show RunSt w (a, [], []) (.slice none 0 0) (.slice none 0 0) ((w3.setCell ⟨w.heap.size + 1, 0, none⟩ (.slice E1 a.ms.length e1)).setCell ⟨w.heap.size + 1, 1, none⟩ (.slice E2 a.cs.length e2)) from
      ⟨_, _, N3.out.put2 _ _, OA.out.put2 (by omega) (Nat.le_refl _) _ _, World.ownsRow_nil _ _ _ _, World.ownsRow_nil _ _ _ _, (fun j h => by cases h), O3.out.put2 (by omega) _ _, AirV.oks H.out, (fun m h => by cases h), (fun n h => by cases h)⟩)
    obtain ⟨ti, hti, hz0, hz1, hz2⟩ := info_parts info_Msg
    obtain ⟨tj, htj, jz0, jz1, jz2⟩ := info_parts info_Errno
    go_wp2_with fail
    go_loopw [5, 6, 20] (fun vc ve i wr => ∃ k : Nat, k ≤ l.length ∧ i = .int .i64 (k : Int) ∧ RunSt w (Lnk.runs a (l.take k)) vc ve wr) (fun _ _ i _ => l.length - (intOf i).toNat)
    case atStart => exact ⟨0, by omega, by go_num, HST.out⟩
    case round =>
      obtain ⟨k, hk, rfl, hst⟩ := hrel
      have hcu := runs_cuts a (l.take k)
      have hca := runs_came a (l.take k)
      have hle := Lnk.runs_len (l.take k) a
      have hrt := Lnk.right_runs (l := l.take k) HRT.out
      simp only [List.length_take, Nat.min_eq_left hk] at hcu hca hle
      have HST2 := Lib.hid (fun h => runs_step a l k h)
      have HSE := Lib.hid (fun h : k = l.length => (show Lnk.runs a (l.take k) = Lnk.runs a l by rw [h, List.take_length]))
      generalize Lnk.runs a (l.take k) = r at hst hcu hca hle hrt HST2 HSE
      obtain ⟨b, ms, es⟩ := r
      obtain ⟨y1, y2, hB, ⟨_, _, he, r1, r2⟩, rc, re, hne, hO, hok, hmk, hnk⟩ := hst
      obtain ⟨rfl, rfl⟩ := agg2_inj he
      simp only at hcu hca hle hrt r1 r2 rc re hok hmk hnk
      obtain ⟨E3, e3, rfl, _, _, _⟩ := Reads.of_own r1
      obtain ⟨E4, e4, rfl, _, _, _⟩ := Reads.of_own r2
      obtain ⟨E5, e5, rfl, _, _, _⟩ := Reads.of_own rc
      obtain ⟨E6, e6, rfl, _, _, _⟩ := Reads.of_own re
      obtain ⟨x0, x1, x2, x3⟩ := hB.two
      have hbl := hB.lt
      have HA := Lib.hid (show OwnAir (w.heap.size + 1 + 1) wr (.agg #[.slice E3 b.ms.length e3, .slice E4 b.cs.length e4]) b from ⟨_, _, rfl, r1, r2⟩)
      have HB := Lib.hid hB
      have HRC := Lib.hid rc
      have HRE := Lib.hid re
      have HNE := Lib.hid hne
      have HO := Lib.hid hO
      have HOK := Lib.hid hok
      have HMK := Lib.hid hmk
      have HNK := Lib.hid hnk
      have HLE := Lib.hid hle
      have HF_ := Lib.hid (right_few hrt (by omega : b.cs.length ≤ 1000000))
      clear hB r1 r2 rc re hne hO hok hmk hnk hle hrt
      by_cases hlt : k < l.length
      · obtain ⟨bb, off, rfl, i0, i1, i2, i3, hcell⟩ := HF.out k hlt
        obtain ⟨g0, g1, g2, g3⟩ := hcell wr HO.out
        have HC := Lib.hid (fun (W : World) (o : Only NoF wr W) => ndo_c (w := W) (HA.out.keep o |>.air HOK.out.1 HOK.out.2) HF_.out (e := l[k]) ⟨i0, i1, i2, i3⟩)
        have HNX := Lib.hid (show Lnk.next b l[k] = if (Lnk.do_ b l[k]).2.2 = 0 then (Lnk.do_ b l[k]).1 else b from rfl)
        have HS3 := Lib.hid (HST2.out hlt)
        have hd1 := do_one b l[k]
        have HDI := Lib.hid (do_I64 b l[k])
        simp only at HS3
        generalize Lnk.do_ b l[k] = d at HC HNX HS3 hd1 HDI
        obtain ⟨da, dm, dn⟩ := d
        simp only at HNX HS3 hd1 HDI
        clear hcell i0 i1 i2 i3
        go_wp2_with fail
        refine (HC.out _ ((Only.refl NoF wr).alloc _)).mono ?_
        rintro e w5 ⟨v', m', rfl, ⟨z1, z2, rfl, q1, q2⟩, hok5, q3, hmk5, o5⟩
        dsimp only at q1 q2 q3 hok5 hmk5 ⊢
        obtain ⟨E7, e7, rfl, _, _, _⟩ := Reads.of_own q1
        obtain ⟨E8, e8, rfl, _, _, _⟩ := Reads.of_own q2
        obtain ⟨E9, e9, rfl, _, _, _⟩ := Reads.of_own q3
        have hB5 := HB.out.keep (((Only.refl NoF wr).alloc _).trans' o5)
        obtain ⟨x50, x51, x52, x53⟩ := (hB5.alloc (.cells #[.slice E7 da.ms.length e7, .slice E8 da.cs.length e8] 25)).two
        have HMN := Lib.hid (fun o' => mid_no (o' := o') HB.out HA.out HRC.out HRE.out HNE.out HO.out o5 q3)
        have HMY := Lib.hid (fun o' => mid_ok (o' := o') HB.out HRC.out HRE.out HO.out o5 ⟨_, _, rfl, q1, q2⟩ q3)
        have HM5 := Lib.hid (show ∀ m ∈ ms ++ dm, MsgOk m from fun m h => (List.mem_append.1 h).elim (HMK.out m) (hmk5 m))
        have hel : es.length ≤ 1000000 := by have := HLE.out; omega
        clear o5 q1 q2 q3 hmk5 hB5
        by_cases hz : dn = 0
        · have hzb : (dn == 0) = true := by simpa using hz
          have HX := Lib.hid (show Lnk.next b l[k] = da by rw [HNX.out, if_pos hz])
          clear hz
          have hmid := Lib.hid (HMY.out (.cells #[.slice E7 da.ms.length e7, .slice E8 da.cs.length e8] 25))
          clear HMY HMN
          go_wp2_with (first
            | (at_builtin; (refine wpList_append_any _ rfl (.tmp 34) (.tmp 35) _ rfl (w.heap.size + 1 + 1) 27 ti _ 3 32 Try.underlying22 hti hz0 hz1 hz2 rfl (by decide) (.slice E5 ms.length e5) ms.length (msgCells ms) rfl hmid.out.rc _ _ dm.length e9 (msgCells dm) rfl hmid.out.rm (msgCells_one dm) (by unfold maxLen; omega) (by omega) hmid.out.size ?_); intro vc' w7 c7 g7 a7; (have C7 := Lib.hid c7); (have G7 := Lib.hid g7); (have A7 := Lib.hid a7); (have RE7 := Lib.hid (own_only hmid.out.re (grown_only (v := .slice E5 ms.length e5) g7) fun k h h' => own_ne hmid.out.re hmid.out.rc (by decide) k h (h'.symm ▸ rfl))); (have HS7 := Lib.hid (Nat.le_trans hmid.out.size g7.size)); clear c7 g7 a7)
            | (at_builtin; (refine wpList_append_any _ rfl (.tmp 37) (.tmp 39) _ rfl (w.heap.size + 1 + 1) 32 tj _ 1 8 Try.underlying40 htj jz0 jz1 jz2 rfl (by decide) (.slice E6 es.length e6) es.length (errCells es) rfl (own_keep RE7.out ((Only.refl NoF w7).alloc _)) _ _ 1 1 [.int .i64 dn] rfl (reads_made w7 _ 1 1 [.int .i64 dn] rfl) (by simp [Value.oneCell']) (by unfold maxLen; omega) (by omega) (by simp only [World.size_alloc]; exact Nat.le_succ_of_le HS7.out) ?_); intro ve' w8 c8 g8 a8; (have C8 := Lib.hid c8); (have G8 := Lib.hid g8); clear c8 g8 a8))
          go_roundw
          case rel => exact ⟨k + 1, by omega, by go_num, by rw [HS3.out, HX.out]; exact run_mid hmid.out.blk hmid.out.air hmid.out.rc hmid.out.re hmid.out.ne hmid.out.only hok5 HM5.out HNK.out HDI.out G7.out C7.out A7.out G8.out C8.out⟩
          case measure => simp [intOf]; omega
        · have hzb : (dn == 0) = false := by simpa using hz
          have HX := Lib.hid (show Lnk.next b l[k] = b by rw [HNX.out, if_neg hz])
          clear hz
          have hmid := Lib.hid (HMN.out (.cells #[.slice E7 da.ms.length e7, .slice E8 da.cs.length e8] 25))
          clear HMY HMN
          go_wp2_with (first
            | (at_builtin; (refine wpList_append_any _ rfl (.tmp 34) (.tmp 35) _ rfl (w.heap.size + 1 + 1) 27 ti _ 3 32 Try.underlying22 hti hz0 hz1 hz2 rfl (by decide) (.slice E5 ms.length e5) ms.length (msgCells ms) rfl hmid.out.rc _ _ dm.length e9 (msgCells dm) rfl hmid.out.rm (msgCells_one dm) (by unfold maxLen; omega) (by omega) hmid.out.size ?_); intro vc' w7 c7 g7 a7; (have C7 := Lib.hid c7); (have G7 := Lib.hid g7); (have A7 := Lib.hid a7); (have RE7 := Lib.hid (own_only hmid.out.re (grown_only (v := .slice E5 ms.length e5) g7) fun k h h' => own_ne hmid.out.re hmid.out.rc (by decide) k h (h'.symm ▸ rfl))); (have HS7 := Lib.hid (Nat.le_trans hmid.out.size g7.size)); clear c7 g7 a7)
            | (at_builtin; (refine wpList_append_any _ rfl (.tmp 37) (.tmp 39) _ rfl (w.heap.size + 1 + 1) 32 tj _ 1 8 Try.underlying40 htj jz0 jz1 jz2 rfl (by decide) (.slice E6 es.length e6) es.length (errCells es) rfl (own_keep RE7.out ((Only.refl NoF w7).alloc _)) _ _ 1 1 [.int .i64 dn] rfl (reads_made w7 _ 1 1 [.int .i64 dn] rfl) (by simp [Value.oneCell']) (by unfold maxLen; omega) (by omega) (by simp only [World.size_alloc]; exact Nat.le_succ_of_le HS7.out) ?_); intro ve' w8 c8 g8 a8; (have C8 := Lib.hid c8); (have G8 := Lib.hid g8); clear c8 g8 a8))
          go_roundw
          case rel => exact ⟨k + 1, by omega, by go_num, by rw [HS3.out, HX.out]; exact run_mid hmid.out.blk hmid.out.air hmid.out.rc hmid.out.re hmid.out.ne hmid.out.only HOK.out HM5.out HNK.out HDI.out G7.out C7.out A7.out G8.out C8.out⟩
          case measure => simp [intOf]; omega
      · have HE2 := Lib.hid (HSE.out (by omega))
        go_wp2
        refine bodyPost_ret (results_row_tmp2 rfl _ _ (w.heap.size + 1) 25 #[.slice E3 b.ms.length e3, .slice E4 b.cs.length e4] (0, 0) _ rfl (HB.out.put2 _ _) Try.underlying25 rfl (by kernel_rfl)) rfl ?_
        rw [HE.out, ← HE2.out]
        have p : Only (oneF (w.heap.size + 1)) wr ((wr.setCell ⟨w.heap.size + 1, 0, none⟩ (.slice E3 b.ms.length e3)).setCell ⟨w.heap.size + 1, 1, none⟩ (.slice E4 b.cs.length e4)) := ((Only.refl (oneF (w.heap.size + 1)) _).setCell (.inl (by show _ = _; rfl)) _).setCell (.inl (by show _ = _; rfl)) _
        exact ⟨_, _, _, rfl, ⟨(HA.out.put2 (by omega) (Nat.le_refl _) _ _).low (by omega), HOK.out⟩, Msgs.ownB (own_only HRC.out p (fun j hj h => by have := (HRC.out.lt j hj).1; unfold oneF at h; omega)) (by omega) HMK.out, Errs.ownB (own_only HRE.out p (fun j hj h => by have := (HRE.out.lt j hj).1; unfold oneF at h; omega)) (by omega) HNK.out, HO.out.put2 (by omega) _ _⟩
end
end Go.Proofs.Ytocbfobakmieoaa
