/-
  The reference's comparisons, walked: SameMessages, SameErrors. No condition.
-/
import Derived.Test.YtocbfobakmieoaaLkW9
namespace Go.Proofs.Ytocbfobakmieoaa
set_option linter.unusedVariables false
set_option linter.unusedSimpArgs false
set_option linter.unusedSectionVars false
open Go.RowKit

theorem take_step {α : Type} {l1 l2 : List α} {k : Nat} (h : l1.take k = l2.take k) (h1 : k < l1.length) (h2 : k < l2.length) (he : l1[k] = l2[k]) : l1.take (k + 1) = l2.take (k + 1) := by
  rw [List.take_add_one, List.take_add_one, h, List.getElem?_eq_getElem h1, List.getElem?_eq_getElem h2, he]

section
variable {w : World} {v1 v2 : Value}
set_option maxRecDepth 100000 in
set_option maxHeartbeats 1000000 in
theorem kSameM_c {l1 l2 : List Msg} (h1 : Msgs w v1 l1) (h2 : Msgs w v2 l2) : Calls Try.prog 26 #[v1, v2] w (BoolTo w (decide (l1 = l2))) := by
  obtain ⟨A1, c1, rfl, m1, m2, hf1⟩ := Msgs.form h1
  obtain ⟨A2, c2, rfl, n1, n2, hf2⟩ := Msgs.form h2
  have HF1 := Lib.hid hf1
  have HF2 := Lib.hid hf2
  clear h1 h2 hf1 hf2
  unfold maxLen at m2 n2
  by_cases hlen : l1.length = l2.length
  · have hb : ((l1.length : Int) != (l2.length : Int)) = false := by simp [hlen]
    have hb2 : ((l2.length : Int) != (l2.length : Int)) = false := by simp
    rw [hlen] at m1 ⊢
    go_enter Try.func26, Try.ntmps26
    go_wp2
    go_loopw [5] (fun i wr => ∃ k : Nat, k ≤ l2.length ∧ i = .int .i64 (k : Int) ∧ l1.take k = l2.take k ∧ Only NoF w wr) (fun i _ => l2.length - (intOf i).toNat)
    case atStart => exact ⟨0, by omega, by go_num, by simp, Only.refl _ _⟩
    case round =>
      obtain ⟨k, hk, rfl, ht, hO⟩ := hrel
      have HT := Lib.hid ht
      clear ht
      by_cases hlt : k < l2.length
      · obtain ⟨b, off, rfl, _, hc⟩ := HF1.out k (by omega)
        obtain ⟨b', off', rfl, _, hc'⟩ := HF2.out k hlt
        obtain ⟨x0, x1, x2⟩ := hc wr hO
        obtain ⟨y0, y1, y2⟩ := hc' wr hO
        clear hc hc'
        have hl1 : k < l1.length := by omega
        have hgu := fun (x y : Operand) (W : World) => run_eqGuard_agg (P := Try.prog) W .neq 27 x y #[.int .i64 l1[k].a, .int .i64 l1[k].b, strV l1[k].t] #[.int .i64 l2[k].a, .int .i64 l2[k].b, strV l2[k].t] guardMsg
        have heq := fun W : World => neqMsg W l1[k] l2[k]
        by_cases he : l1[k] = l2[k]
        · rw [decide_eq_true he] at heq
          have HE := Lib.hid he
          clear he
          go_wp2_with fail
          go_quiet (fail)
          go_wp2
          go_roundw
          case rel => exact ⟨k + 1, by omega, by go_num, take_step HT.out hl1 hlt HE.out, hO.drewN _⟩
          case measure => simp [intOf]; omega
        · rw [decide_eq_false he] at heq
          have HN := Lib.hid (show decide (l1 = l2) = false from decide_eq_false fun h => he (by subst h; rfl))
          clear he
          go_wp2_with fail
          go_quiet (fail)
          go_wp2
          go_ret
          exact ⟨by rw [HN.out]; rfl, hO.drewN _⟩
      · have HE := Lib.hid (show decide (l1 = l2) = true from decide_eq_true (by have := HT.out; rwa [List.take_of_length_le (by omega), List.take_of_length_le (by omega)] at this))
        go_wp2
        go_ret
        exact ⟨by rw [HE.out]; rfl, hO⟩
  · have hb : ((l1.length : Int) != (l2.length : Int)) = true := by simp; omega
    have HN := Lib.hid (show decide (l1 = l2) = false from decide_eq_false fun h => hlen (by rw [h]))
    clear hlen
    go_enter Try.func26, Try.ntmps26
    go_wp2
    go_ret
    exact ⟨by rw [HN.out]; rfl, Only.refl _ _⟩

set_option maxRecDepth 100000 in
set_option maxHeartbeats 1000000 in
theorem kSameE_c {l1 l2 : List Int} (h1 : Errs w v1 l1) (h2 : Errs w v2 l2) : Calls Try.prog 27 #[v1, v2] w (BoolTo w (decide (l1 = l2))) := by
  obtain ⟨A1, c1, rfl, m1, m2, hf1⟩ := Errs.form h1
  obtain ⟨A2, c2, rfl, n1, n2, hf2⟩ := Errs.form h2
  have HF1 := Lib.hid hf1
  have HF2 := Lib.hid hf2
  clear h1 h2 hf1 hf2
  unfold maxLen at m2 n2
  by_cases hlen : l1.length = l2.length
  · have hb : ((l1.length : Int) != (l2.length : Int)) = false := by simp [hlen]
    have hb2 : ((l2.length : Int) != (l2.length : Int)) = false := by simp
    rw [hlen] at m1 ⊢
    go_enter Try.func27, Try.ntmps27
    go_wp2
    go_loopw [5] (fun i wr => ∃ k : Nat, k ≤ l2.length ∧ i = .int .i64 (k : Int) ∧ l1.take k = l2.take k ∧ Only NoF w wr) (fun i _ => l2.length - (intOf i).toNat)
    case atStart => exact ⟨0, by omega, by go_num, by simp, Only.refl _ _⟩
    case round =>
      obtain ⟨k, hk, rfl, ht, hO⟩ := hrel
      have HT := Lib.hid ht
      clear ht
      by_cases hlt : k < l2.length
      · obtain ⟨b, off, rfl, _, hc⟩ := HF1.out k (by omega)
        obtain ⟨b', off', rfl, _, hc'⟩ := HF2.out k hlt
        have x0 := hc wr hO
        have y0 := hc' wr hO
        clear hc hc'
        have hl1 : k < l1.length := by omega
        by_cases he : l1[k] = l2[k]
        · have hbe : (l1[k] != l2[k]) = false := by simp [he]
          have HE := Lib.hid he
          clear he
          go_wp2_with fail
          go_quiet (fail)
          go_wp2
          go_roundw
          case rel => exact ⟨k + 1, by omega, by go_num, take_step HT.out hl1 hlt HE.out, hO.drewN _⟩
          case measure => simp [intOf]; omega
        · have hbe : (l1[k] != l2[k]) = true := by simp [he]
          have HN := Lib.hid (show decide (l1 = l2) = false from decide_eq_false fun h => he (by subst h; rfl))
          clear he
          go_wp2_with fail
          go_quiet (fail)
          go_wp2
          go_ret
          exact ⟨by rw [HN.out]; rfl, hO.drewN _⟩
      · have HE := Lib.hid (show decide (l1 = l2) = true from decide_eq_true (by have := HT.out; rwa [List.take_of_length_le (by omega), List.take_of_length_le (by omega)] at this))
        go_wp2
        go_ret
        exact ⟨by rw [HE.out]; rfl, hO⟩
  · have hb : ((l1.length : Int) != (l2.length : Int)) = true := by simp; omega
    have HN := Lib.hid (show decide (l1 = l2) = false from decide_eq_false fun h => hlen (by rw [h]))
    clear hlen
    go_enter Try.func27, Try.ntmps27
    go_wp2
    go_ret
    exact ⟨by rw [HN.out]; rfl, Only.refl _ _⟩
end
end Go.Proofs.Ytocbfobakmieoaa
