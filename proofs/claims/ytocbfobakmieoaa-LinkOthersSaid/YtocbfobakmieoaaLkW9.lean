/-
  slices.Index and Contains of pairs, the link's Deliver, walked. Condition: at most 1,000,000 elements.
-/
import Derived.Test.YtocbfobakmieoaaLkW8
namespace Go.Proofs.Ytocbfobakmieoaa
set_option linter.unusedVariables false
set_option linter.unusedSimpArgs false
set_option linter.unusedSectionVars false
open Go.RowKit

theorem guardPr : Try.prog.eqGuardType Try.prog.depth 60 = false := by kernel_rfl
theorem guardMsg : Try.prog.eqGuardType Try.prog.depth 27 = false := by kernel_rfl
theorem eqPr (w : World) (k k' : Pr) : (Op.equalIn 10000 60 (prV k) (prV k')).run Try.prog w = .ok (decide (k = k')) w := by
  have h : (Op.equalIn (9999 + 1) 60 (prV k) (prV k')).run Try.prog w = .ok (decide (k = k')) w := by
    obtain ⟨a, b⟩ := k
    obtain ⟨c, d⟩ := k'
    by_cases h1 : a = c <;> by_cases h2 : b = d <;> simp [go_sem, Try.underlying60, Try.underlying3, h1, h2]
  exact h
theorem eqlPr (w : World) (k k' : Pr) : (binOp .eql 60 (prV k) (prV k')).run Try.prog w = .ok (.bool (decide (k = k'))) w := by
  rw [run_eql_struct, eqPr]
  rfl
theorem eqMsg (w : World) (k k' : Msg) : (Op.equalIn 10000 27 (msgV k) (msgV k')).run Try.prog w = .ok (decide (k = k')) w := by
  have h : (Op.equalIn (9999 + 1) 27 (msgV k) (msgV k')).run Try.prog w = .ok (decide (k = k')) w := by
    obtain ⟨a, b, s⟩ := k
    obtain ⟨c, d, t⟩ := k'
    by_cases h1 : a = c <;> by_cases h2 : b = d <;> by_cases h3 : s = t <;> simp [go_sem, Try.underlying27, Try.underlying3, Try.underlying9, ByteArray.toList_eq, h1, h2, h3]
  exact h
theorem eqlMsg (w : World) (k k' : Msg) : (binOp .eql 27 (msgV k) (msgV k')).run Try.prog w = .ok (.bool (decide (k = k'))) w := by
  rw [run_eql_struct, eqMsg]
  rfl
theorem neqMsg (w : World) (k k' : Msg) : (binOp .neq 27 (msgV k) (msgV k')).run Try.prog w = .ok (.bool (!decide (k = k'))) w := by
  rw [run_neq_struct, eqMsg]
  rfl
theorem neqPr (w : World) (k k' : Pr) : (binOp .neq 60 (prV k) (prV k')).run Try.prog w = .ok (.bool (!decide (k = k'))) w := by
  rw [run_neq_struct, eqPr]
  rfl

section
variable {w : World} {v : Value}
set_option maxHeartbeats 1000000 in
theorem idxPr_c {l : List Pr} (h : Prs w v l) (p : Pr) : Calls Try.prog 61 #[v, prV p] w (IdxTo w (decide (p ∈ l))) := by
  obtain ⟨A, cap, rfl, h1, h2, hf⟩ := Prs.form h
  have HF := Lib.hid hf
  clear hf h
  unfold maxLen at h2
  go_enter Try.func61, Try.ntmps61
  go_wp2
  go_loopw [8] (fun i wr => ∃ k : Nat, k ≤ l.length ∧ i = .int .i64 (k : Int) ∧ (∀ m ∈ l.take k, m ≠ p) ∧ Only NoF w wr ∧ Blk wr w.heap.size 60 #[.int .i64 p.x, .int .i64 p.y]) (fun i _ => l.length - (intOf i).toNat)
  case atStart => exact ⟨0, by omega, by go_num, by simp, (Only.refl _ _).alloc _, Blk.new w _ _⟩
  case round =>
    obtain ⟨k, hk, rfl, hp, hO, hK⟩ := hrel
    have HP := Lib.hid hp
    obtain ⟨x0, x1, _, _⟩ := hK.two
    have HK := Lib.hid hK
    clear hp hK
    by_cases hlt : k < l.length
    · obtain ⟨b, off, rfl, _, _, hc⟩ := HF.out k hlt
      obtain ⟨c0, c1⟩ := hc wr hO
      clear hc
      have hgu := fun (x y : Operand) (W : World) => run_eqGuard_agg (P := Try.prog) W .eql 60 x y #[.int .i64 p.x, .int .i64 p.y] #[.int .i64 l[k].x, .int .i64 l[k].y] guardPr
      have heq := fun W : World => eqlPr W p l[k]
      by_cases he : p = l[k]
      · have HM := Lib.hid (show decide (p ∈ l) = true by rw [he]; exact decide_eq_true (List.getElem_mem hlt))
        rw [decide_eq_true he] at heq
        clear he
        go_wp2_with fail
        go_quiet (fail)
        go_wp2
        go_ret
        exact ⟨_, rfl, by rw [HM.out]; simp, hO.drewN _⟩
      · rw [decide_eq_false he] at heq
        have HE := Lib.hid he
        clear he
        go_wp2_with fail
        go_quiet (fail)
        go_wp2
        go_roundw
        case rel =>
          refine ⟨k + 1, by omega, by go_num, fun m hm => ?_, hO.drewN _, HK.out.drewN _⟩
          rw [List.take_add_one, List.getElem?_eq_getElem hlt] at hm
          rcases List.mem_append.1 hm with hm | hm
          · exact HP.out m hm
          · simp at hm; rw [hm]; exact fun h => HE.out h.symm
        case measure => simp [intOf]; omega
    · have HM := Lib.hid (show decide (p ∈ l) = false by
        have := HP.out
        rw [List.take_of_length_le (by omega)] at this
        exact decide_eq_false fun h => this p h rfl)
      go_wp2
      go_ret
      exact ⟨_, rfl, by rw [HM.out]; rfl, hO⟩

set_option maxHeartbeats 400000 in
theorem hasPr_c {l : List Pr} (h : Prs w v l) (p : Pr) : Calls Try.prog 50 #[v, prV p] w (BoolTo w (decide (p ∈ l))) := by
  have H := Lib.hid h
  have HC := Lib.hid fun (W : World) (o : Only NoF w W) => idxPr_c (Prs.keep H.out o) p
  clear h
  go_enter Try.func50, Try.ntmps50
  go_wp2_with fail
  refine (HC.out _ ((Only.refl _ _).alloc _)).mono ?_
  rintro e w2 ⟨i, rfl, hi, o⟩
  have HI := Lib.hid hi
  clear hi
  go_wp2
  go_ret
  exact ⟨ret_bool (by simpa using HI.out), ((Only.refl _ _).alloc _).trans' o⟩
end
end Go.Proofs.Ytocbfobakmieoaa
