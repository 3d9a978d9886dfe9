/-
  The reference's FewEvents, walked. No condition.
-/
import Derived.Test.YtocbfobakmieoaaLkR1
namespace Go.Proofs.Ytocbfobakmieoaa
set_option linter.unusedVariables false
set_option linter.unusedSimpArgs false
set_option linter.unusedSectionVars false
open Go.RowKit

section
variable {w : World} {v : Value}
/-- true only where p holds -/
def OnlyIf (w : World) (p : Prop) (e : Ending) (w' : World) : Prop := ∃ b, e = .returned (.bool b) ∧ (b = true → p) ∧ Only NoF w w'
def FewEv (l : List Ev) (most : Nat) : Prop := l.length ≤ most ∧ ∀ e ∈ l, e.t.length ≤ 100
set_option maxRecDepth 100000 in
set_option maxHeartbeats 1000000 in
theorem kFewE_c {l : List Ev} (h : Evs w v l) (most : Nat) (hm : most ≤ 1000) : Calls Try.prog 10 #[v, .int .i64 (most : Int)] w (OnlyIf w (FewEv l most)) := by
  obtain ⟨A, cap, rfl, m1, m2, hf⟩ := Evs.form h
  have HF := Lib.hid hf
  clear h hf
  unfold maxLen at m2
  go_enter Try.func10, Try.ntmps10
  go_wp2
  go_loopw [5] (fun i wr => ∃ k : Nat, k ≤ l.length ∧ i = .int .i64 (k : Int) ∧ (∀ e ∈ l.take k, e.t.length ≤ 100) ∧ Only NoF w wr) (fun i _ => l.length - (intOf i).toNat)
  case atStart => exact ⟨0, by omega, by go_num, by simp, Only.refl _ _⟩
  case round =>
    obtain ⟨k, hk, rfl, hp, hO⟩ := hrel
    have HP := Lib.hid hp
    clear hp
    by_cases hlt : (k : Int) < (l.length : Int)
    · by_cases hlm : (k : Int) < (most : Int)
      · obtain ⟨b, off, rfl, _, _, _, ht, hc⟩ := HF.out k (by omega)
        obtain ⟨x0, x1, x2, x3⟩ := hc wr hO
        clear hc
        unfold maxLen at ht
        have hkl : k < l.length := by omega
        by_cases h100 : (100 : Int) < (l[k].t.length : Int)
        · go_wp2
          go_ret
          exact ⟨_, rfl, (fun h => by cases h), hO⟩
        · have HL := Lib.hid (show l[k].t.length ≤ 100 by omega)
          go_wp2
          go_roundw
          case rel =>
            refine ⟨k + 1, by omega, by go_num, fun e he => ?_, hO⟩
            rw [List.take_add_one, List.getElem?_eq_getElem hkl] at he
            rcases List.mem_append.1 he with he | he
            · exact HP.out e he
            · simp at he; rw [he]; exact HL.out
          case measure => simp [intOf]; omega
      · go_wp2
        go_ret
        refine ⟨_, rfl, fun hb => ?_, hO⟩
        exact absurd (of_decide_eq_true hb) (by omega)
    · have HE := Lib.hid (show ∀ e ∈ l, e.t.length ≤ 100 by have := HP.out; rwa [List.take_of_length_le (by omega)] at this)
      go_wp2
      go_ret
      refine ⟨_, rfl, fun hb => ⟨?_, HE.out⟩, hO⟩
      have := of_decide_eq_true hb
      omega

def FewA (a : Air) (most : Nat) : Prop := (a.ms.length ≤ most ∨ (995 < a.ms.length ∧ a.ms.length < 1003)) ∧ a.cs.length ≤ 20 ∧ ∀ m ∈ a.ms, m.t.length ≤ 100
set_option maxRecDepth 100000 in
set_option maxHeartbeats 2000000 in
theorem kFew_c {a : Air} (h : AirV w v a) (most : Nat) (hm : most ≤ 1000) : Calls Try.prog 9 #[v, .int .i64 (most : Int)] w (OnlyIf w (FewA a most)) := by
  obtain ⟨v1, v2, rfl, hm0, hc0⟩ := h
  obtain ⟨A, cap, rfl, m1, m2, hf⟩ := Msgs.form hm0
  obtain ⟨A2, cap2, rfl, n1, n2⟩ := SliceOf.shape hc0
  have HF := Lib.hid hf
  clear hm0 hc0 hf
  unfold maxLen at m2 n2
  go_enter Try.func9, Try.ntmps9
  go_wp2
  go_loopw [5] (fun i wr => ∃ k : Nat, k ≤ a.ms.length ∧ k ≤ 1010 ∧ i = .int .i64 (k : Int) ∧ (∀ e ∈ a.ms.take k, e.t.length ≤ 100) ∧ Only NoF w wr ∧ Blk wr w.heap.size 25 #[.slice A a.ms.length cap, .slice A2 a.cs.length cap2]) (fun i _ => a.ms.length - (intOf i).toNat)
  case atStart => exact ⟨0, by omega, by omega, by go_num, by simp, (Only.refl _ _).alloc _, Blk.new w _ _⟩
  case round =>
    obtain ⟨k, hk, hk2, rfl, hp, hO, hK⟩ := hrel
    have HP := Lib.hid hp
    obtain ⟨z0, z1, _, _⟩ := hK.two
    have HK := Lib.hid hK
    clear hp hK
    by_cases hgo : (k : Int) < (a.ms.length : Int) ∧ (k : Int) < 1010
    · obtain ⟨hlt, hlm⟩ := hgo
      obtain ⟨b, off, rfl, ⟨_, _, ht⟩, hc⟩ := HF.out k (by omega)
      obtain ⟨x0, x1, x2⟩ := hc wr hO
      clear hc
      unfold maxLen at ht
      have hkl : k < a.ms.length := by omega
      by_cases h100 : (100 : Int) < (a.ms[k].t.length : Int)
      · go_wp2
        go_ret
        exact ⟨_, rfl, (fun h => by cases h), hO⟩
      · have HL := Lib.hid (show a.ms[k].t.length ≤ 100 by omega)
        go_wp2
        go_roundw
        case rel =>
          refine ⟨k + 1, by omega, by omega, by go_num, fun e he => ?_, hO, HK.out⟩
          rw [List.take_add_one, List.getElem?_eq_getElem hkl] at he
          rcases List.mem_append.1 he with he | he
          · exact HP.out e he
          · simp at he; rw [he]; exact HL.out
        case measure => simp [intOf]; omega
    · have HE := Lib.hid (show a.ms.length ≤ 1003 → ∀ e ∈ a.ms, e.t.length ≤ 100 by
        intro h3
        have := HP.out
        rwa [List.take_of_length_le (by omega)] at this)
      by_cases hq : (a.ms.length : Int) ≤ (most : Int)
      · by_cases hc : (a.cs.length : Int) ≤ 20
        · by_cases hk3 : (k : Int) < (a.ms.length : Int)
          · omega
          · go_wp2
            go_ret
            exact ⟨_, rfl, fun _ => ⟨.inl (by omega), by omega, HE.out (by omega)⟩, hO⟩
        · by_cases hk3 : (k : Int) < (a.ms.length : Int)
          · omega
          · go_wp2
            go_ret
            exact ⟨_, rfl, (fun h => by first | cases h | exact absurd (of_decide_eq_true h) (by omega)), hO⟩
      · by_cases hk3 : (k : Int) < (a.ms.length : Int)
        · have hk4 : ¬ (k : Int) < 1010 := fun h => hgo ⟨hk3, h⟩
          have hk5 : ¬ (a.ms.length : Int) < 1003 := by omega
          have hk6 : (995 : Int) < (a.ms.length : Int) := by omega
          go_wp2
          go_ret
          exact ⟨_, rfl, (fun h => by first | cases h | exact absurd (of_decide_eq_true h) (by omega)), hO⟩
        · by_cases hk6 : (995 : Int) < (a.ms.length : Int)
          · by_cases hk5 : (a.ms.length : Int) < 1003
            · by_cases hc : (a.cs.length : Int) ≤ 20
              · go_wp2
                go_ret
                exact ⟨_, rfl, fun _ => ⟨.inr (by omega), by omega, HE.out (by omega)⟩, hO⟩
              · go_wp2
                go_ret
                exact ⟨_, rfl, (fun h => by first | cases h | exact absurd (of_decide_eq_true h) (by omega)), hO⟩
            · go_wp2
              go_ret
              exact ⟨_, rfl, (fun h => by first | cases h | exact absurd (of_decide_eq_true h) (by omega)), hO⟩
          · go_wp2
            go_ret
            exact ⟨_, rfl, (fun h => by first | cases h | exact absurd (of_decide_eq_true h) (by omega)), hO⟩
end
end Go.Proofs.Ytocbfobakmieoaa
