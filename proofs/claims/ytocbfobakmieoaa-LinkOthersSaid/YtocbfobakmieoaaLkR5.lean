/-
  The reference's Same, walked. No condition.
-/
import Derived.Test.YtocbfobakmieoaaLkR4
namespace Go.Proofs.Ytocbfobakmieoaa
set_option linter.unusedVariables false
set_option linter.unusedSimpArgs false
set_option linter.unusedSectionVars false
open Go.RowKit

section
variable {w : World} {v1 v2 : Value}
theorem kSameM_of {l1 l2 : List Msg} {v1 v2 : Value} (h1 : Msgs w v1 l1) (h2 : Msgs w v2 l2) {b : Bool} (hb : decide (l1 = l2) = b) (W : World) (o : Only NoF w W) : Calls Try.prog 26 #[v1, v2] W (BoolTo W b) := by
  subst hb
  exact kSameM_c (Msgs.keep h1 o) (Msgs.keep h2 o)
set_option maxRecDepth 100000 in
set_option maxHeartbeats 1000000 in
theorem kSame_c {a1 a2 : Air} (h1 : AirV w v1 a1) (h2 : AirV w v2 a2) : Calls Try.prog 13 #[v1, v2] w (BoolTo w (decide (a1 = a2))) := by
  obtain ⟨x1, x2, rfl, hm1, hc1⟩ := h1
  obtain ⟨y1, y2, rfl, hm2, hc2⟩ := h2
  obtain ⟨A1, c1, rfl, m1, m2, hf1⟩ := Prs.form hc1
  obtain ⟨A2, c2, rfl, n1, n2, hf2⟩ := Prs.form hc2
  have HF1 := Lib.hid hf1
  have HF2 := Lib.hid hf2
  unfold maxLen at m2 n2
  have HB := Lib.hid (fun (W : World) (o : Only NoF ((w.alloc (.cells #[x1, .slice A1 a1.cs.length c1] 25)).alloc (.cells #[y1, .slice A2 a2.cs.length c2] 25)) W) =>
    (⟨(((Only.refl NoF w).alloc _).alloc _).trans' o, ((Blk.new w 25 #[x1, .slice A1 a1.cs.length c1]).alloc _).keep o, (Blk.new2 w _ 25 #[y1, .slice A2 a2.cs.length c2]).keep o⟩ :
      Only NoF w W ∧ Blk W w.heap.size 25 #[x1, .slice A1 a1.cs.length c1] ∧ Blk W (w.heap.size + 1) 25 #[y1, .slice A2 a2.cs.length c2]))
  cases hms : decide (a1.ms = a2.ms) with
  | false =>
    have HM := Lib.hid (kSameM_of hm1 hm2 hms)
    have HN := Lib.hid (show decide (a1 = a2) = false from decide_eq_false fun h => of_decide_eq_false hms (by rw [h]))
    clear hms hm1 hm2 hc1 hc2 hf1 hf2
    go_enter Try.func13, Try.ntmps13
    go_wp2_with fail
    refine (HM.out _ (HB.out _ (Only.refl _ _)).1).mono ?_
    rintro e w2 ⟨rfl, o1⟩
    have O := Lib.hid (HB.out _ o1).1
    clear o1
    go_wp2
    go_ret
    exact ⟨by rw [HN.out]; rfl, O.out⟩
  | true =>
    have HM := Lib.hid (kSameM_of hm1 hm2 hms)
    have HE := Lib.hid (of_decide_eq_true hms)
    clear hms hm1 hm2 hc1 hc2 hf1 hf2
    by_cases hlen : a1.cs.length = a2.cs.length
    · have hb : ((a1.cs.length : Int) != (a2.cs.length : Int)) = false := by simp [hlen]
      have HLEN := Lib.hid hlen
      clear hlen
      go_enter Try.func13, Try.ntmps13
      go_wp2_with fail
      refine (HM.out _ (HB.out _ (Only.refl _ _)).1).mono ?_
      rintro e w2 ⟨rfl, o1⟩
      obtain ⟨o, p1, p2⟩ := HB.out _ o1
      obtain ⟨z0, z1, _, _⟩ := p1.two
      obtain ⟨u0, u1, _, _⟩ := p2.two
      have HST := Lib.hid (And.intro o (And.intro p1 p2))
      clear o1 o p1 p2
      go_wp2_with fail
      go_loopw [5] (fun i wr => ∃ k : Nat, k ≤ a1.cs.length ∧ i = .int .i64 (k : Int) ∧ a1.cs.take k = a2.cs.take k ∧ Only NoF w wr ∧ Blk wr w.heap.size 25 #[x1, .slice A1 a1.cs.length c1] ∧ Blk wr (w.heap.size + 1) 25 #[y1, .slice A2 a2.cs.length c2]) (fun i _ => a1.cs.length - (intOf i).toNat)
      case atStart => exact ⟨0, by omega, by go_num, by simp, HST.out⟩
      case round =>
        obtain ⟨k, hk, rfl, ht, hO, hK1, hK2⟩ := hrel
        have HT := Lib.hid ht
        obtain ⟨z0, z1, _, _⟩ := hK1.two
        obtain ⟨u0, u1, _, _⟩ := hK2.two
        have HK1 := Lib.hid hK1
        have HK2 := Lib.hid hK2
        clear ht hK1 hK2
        by_cases hlt : k < a1.cs.length
        · have hlt2 : k < a2.cs.length := by have := HLEN.out; omega
          obtain ⟨b, off, rfl, _, _, hc⟩ := HF1.out k hlt
          obtain ⟨b', off', rfl, _, _, hc'⟩ := HF2.out k hlt2
          obtain ⟨q0, q1⟩ := hc wr hO
          obtain ⟨r0, r1⟩ := hc' wr hO
          clear hc hc'
          have hgu := fun (x y : Operand) (W : World) => run_eqGuard_agg (P := Try.prog) W .neq 60 x y #[.int .i64 a1.cs[k].x, .int .i64 a1.cs[k].y] #[.int .i64 a2.cs[k].x, .int .i64 a2.cs[k].y] guardPr
          have heq := fun W : World => neqPr W a1.cs[k] a2.cs[k]
          by_cases he : a1.cs[k] = a2.cs[k]
          · rw [decide_eq_true he] at heq
            have HEE := Lib.hid he
            clear he
            go_wp2_with fail
            go_quiet (fail)
            go_wp2
            go_roundw
            case rel => exact ⟨k + 1, by omega, by go_num, take_step HT.out hlt hlt2 HEE.out, hO.drewN _, HK1.out.drewN _, HK2.out.drewN _⟩
            case measure => simp [intOf]; omega
          · rw [decide_eq_false he] at heq
            have HN := Lib.hid (show decide (a1 = a2) = false from decide_eq_false fun h => he (by subst h; rfl))
            clear he
            go_wp2_with fail
            go_quiet (fail)
            go_wp2
            go_ret
            exact ⟨by rw [HN.out]; rfl, hO.drewN _⟩
        · have HA := Lib.hid (show decide (a1 = a2) = true from decide_eq_true (by
            have h := HT.out
            have hl := HLEN.out
            rw [List.take_of_length_le (by omega), List.take_of_length_le (by omega)] at h
            have h2 := HE.out
            obtain ⟨p, q⟩ := a1
            obtain ⟨r, s⟩ := a2
            simp only at h h2
            rw [h, h2]))
          go_wp2
          go_ret
          exact ⟨by rw [HA.out]; rfl, hO⟩
    · have hb : ((a1.cs.length : Int) != (a2.cs.length : Int)) = true := by simp; omega
      have HN := Lib.hid (show decide (a1 = a2) = false from decide_eq_false fun h => hlen (by rw [h]))
      clear hlen
      go_enter Try.func13, Try.ntmps13
      go_wp2_with fail
      refine (HM.out _ (HB.out _ (Only.refl _ _)).1).mono ?_
      rintro e w2 ⟨rfl, o1⟩
      obtain ⟨o, p1, p2⟩ := HB.out _ o1
      obtain ⟨z0, z1, _, _⟩ := p1.two
      obtain ⟨u0, u1, _, _⟩ := p2.two
      have O := Lib.hid o
      clear o1 o p1 p2
      go_wp2
      go_ret
      exact ⟨by rw [HN.out]; rfl, O.out⟩
end
end Go.Proofs.Ytocbfobakmieoaa
