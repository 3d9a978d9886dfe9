/-
  The law side's count, walked. No condition.
-/
import Derived.Test.YtocbfobakmieoaaLkR2
namespace Go.Proofs.Ytocbfobakmieoaa
set_option linter.unusedVariables false
set_option linter.unusedSimpArgs false
set_option linter.unusedSectionVars false
open Go.RowKit

section
variable {w : World} {v : Value}
def NumTo (w : World) (n : Nat) (e : Ending) (w' : World) : Prop := e = .returned (.int .i64 (n : Int)) ∧ Only NoF w w'
theorem count_step {l : List Msg} {k : Nat} (h : k < l.length) (m : Msg) : (l.take (k + 1)).count m = (l.take k).count m + (if l[k] = m then 1 else 0) := by
  rw [List.take_add_one, List.getElem?_eq_getElem h, List.count_append]
  simp [List.count_cons]
set_option maxRecDepth 100000 in
set_option maxHeartbeats 1000000 in
theorem l38count_c {l : List Msg} (h : Msgs w v l) (m : Msg) : Calls Try.prog 30 #[v, msgV m] w (NumTo w (l.count m)) := by
  obtain ⟨A, cap, rfl, m1, m2, hf⟩ := Msgs.form h
  have HF := Lib.hid hf
  clear h hf
  unfold maxLen at m2
  go_enter Try.func30, Try.ntmps30
  go_wp2
  go_loopw [5, 6] (fun q i wr => ∃ k c : Nat, k ≤ l.length ∧ c ≤ k ∧ i = .int .i64 (k : Int) ∧ q = .int .i64 (c : Int) ∧ (l.take k).count m = c ∧ Only NoF w wr ∧ Blk wr w.heap.size 27 #[.int .i64 m.a, .int .i64 m.b, strV m.t]) (fun _ i _ => l.length - (intOf i).toNat)
  case atStart => exact ⟨0, 0, by omega, by omega, by go_num, by go_num, by simp, (Only.refl _ _).alloc _, Blk.new w _ _⟩
  case round =>
    obtain ⟨k, c, hk, hck, rfl, rfl, ht, hO, hK⟩ := hrel
    have HT := Lib.hid ht
    obtain ⟨z0, z1, z2, _, _, _⟩ := hK.three
    have HK := Lib.hid hK
    clear ht hK
    by_cases hlt : k < l.length
    · obtain ⟨b, off, rfl, _, hc⟩ := HF.out k hlt
      obtain ⟨x0, x1, x2⟩ := hc wr hO
      clear hc
      have hgu := fun (x y : Operand) (W : World) => run_eqGuard_agg (P := Try.prog) W .eql 27 x y #[.int .i64 l[k].a, .int .i64 l[k].b, strV l[k].t] #[.int .i64 m.a, .int .i64 m.b, strV m.t] guardMsg
      have heq := fun W : World => eqlMsg W l[k] m
      have hcs := count_step hlt m
      by_cases he : l[k] = m
      · rw [decide_eq_true he] at heq
        rw [if_pos he] at hcs
        have HCS := Lib.hid hcs
        clear he hcs
        go_wp2_with fail
        go_quiet (fail)
        go_wp2
        go_roundw
        case rel => exact ⟨k + 1, c + 1, by omega, by omega, by go_num, by go_num, by rw [HCS.out, HT.out], hO.drewN _, HK.out.drewN _⟩
        case measure => simp [intOf]; omega
      · rw [decide_eq_false he] at heq
        rw [if_neg he] at hcs
        have HCS := Lib.hid hcs
        clear he hcs
        go_wp2_with fail
        go_quiet (fail)
        go_wp2
        go_roundw
        case rel => exact ⟨k + 1, c, by omega, by omega, by go_num, rfl, by rw [HCS.out, HT.out]; rfl, hO.drewN _, HK.out.drewN _⟩
        case measure => simp [intOf]; omega
    · have HE := Lib.hid (show l.count m = c by have := HT.out; rwa [List.take_of_length_le (by omega)] at this)
      go_wp2
      go_ret
      exact ⟨by rw [HE.out]; rfl, hO⟩
end
end Go.Proofs.Ytocbfobakmieoaa
