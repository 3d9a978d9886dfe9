/-
  The link's Right, walked, with slices.ContainsFunc at its closure. No condition: contracts.
-/
import Derived.Test.YtocbfobakmieoaaLkW1
import Derived.Test.YtocbfobakmieoaaLnkQ
import Derived.Deep.QuietTactic
import Derived.BigQuiet
namespace Go.Proofs.Ytocbfobakmieoaa
set_option linter.unusedVariables false
set_option linter.unusedSimpArgs false
set_option linter.unusedSectionVars false
open Go.RowKit

section
variable {w : World} {v : Value}

def IdxTo (w : World) (b : Bool) (e : Ending) (w' : World) : Prop := ∃ i : Int, e = .returned (.int .i64 i) ∧ decide (0 ≤ i) = b ∧ Only NoF w w'
set_option maxHeartbeats 400000 in
theorem idxFMsg_c {l : List Msg} (h : Msgs w v l) : Calls Try.prog 64 #[v, .func (.func 54) #[] #[]] w (IdxTo w (!(l.all Lnk.rightM))) := by
  obtain ⟨A, cap, rfl, h1, h2, hf⟩ := Msgs.form h
  have HF := Lib.hid hf
  clear hf h
  unfold maxLen at h2
  go_enter Try.func64, Try.ntmps64
  go_wp2
  go_loopw [8] (fun i wr => ∃ k : Nat, k ≤ l.length ∧ i = .int .i64 (k : Int) ∧ (∀ m ∈ l.take k, Lnk.rightM m = true) ∧ Only NoF w wr) (fun i _ => l.length - (intOf i).toNat)
  case atStart => exact ⟨0, by omega, by go_num, by simp, Only.refl _ _⟩
  case round =>
    obtain ⟨k, hk, rfl, hp, hO⟩ := hrel
    have HP := Lib.hid hp
    clear hp
    by_cases hlt : k < l.length
    · obtain ⟨b, off, rfl, _, hc⟩ := HF.out k hlt
      obtain ⟨c0, c1, c2⟩ := hc wr hO
      clear hc
      have HC := Lib.hid (nRight1_c wr l[k])
      cases hb : Lnk.rightM l[k] with
      | true =>
        rw [hb] at HC
        go_wp2_with (go_at_call 54; refine HC.out.mono ?_; rintro e w2 ⟨rfl, hO2⟩)
        go_roundw
        case rel =>
          refine ⟨k + 1, by omega, by go_num, fun p hm => ?_, hO.trans' hO2⟩
          rw [List.take_add_one, List.getElem?_eq_getElem hlt] at hm
          rcases List.mem_append.1 hm with hm | hm
          · exact HP.out p hm
          · simp at hm; rw [hm]; exact hb
        case measure => simp [intOf]; omega
      | false =>
        rw [hb] at HC
        go_wp2_with (go_at_call 54; refine HC.out.mono ?_; rintro e w2 ⟨rfl, hO2⟩)
        go_ret
        refine ⟨_, rfl, ?_, hO.trans' hO2⟩
        have e : l.all Lnk.rightM = false := by
          cases e : l.all Lnk.rightM with
          | false => rfl
          | true => rw [List.all_eq_true.1 e _ (List.getElem_mem hlt)] at hb; cases hb
        rw [e]
        simp
    · have hall := Lib.hid (show l.all Lnk.rightM = true from List.all_eq_true.2 (by have := HP.out; rwa [List.take_of_length_le (by omega)] at this))
      go_wp2
      go_ret
      exact ⟨_, rfl, by rw [hall.out]; rfl, hO⟩

set_option maxHeartbeats 400000 in
theorem hasFMsg_c {l : List Msg} (h : Msgs w v l) : Calls Try.prog 53 #[v, .func (.func 54) #[] #[]] w (BoolTo w (!(l.all Lnk.rightM))) := by
  have H := Lib.hid (idxFMsg_c h)
  clear h
  go_enter Try.func53, Try.ntmps53
  go_wp2_with (go_at_call 64; refine H.out.mono ?_; rintro e w2 ⟨i, rfl, hi, hO2⟩)
  go_ret
  exact ⟨ret_bool (by simp), hO2⟩

theorem beforeI_lt (p q : Pr) : decide (0 ≤ beforeI p q) = !(Lnk.lt p q) := by
  rcases Int.lt_trichotomy p.x q.x with a | a | a <;> rcases Int.lt_trichotomy p.y q.y with b | b | b <;> simp [beforeI, orI, cmpI, Lnk.lt, a, b] <;> first | omega | (intros; omega) | skip
  all_goals (repeat' split) <;> simp <;> omega

theorem quiet_left {P : Program} {f : FuncId} {args : Array Value} {w : World} {n : Nat} {v : Value}
    (h : Calls P f args (w.drewN n) fun e w' => e = .returned v ∧ w.drewN n = w') : Calls P f args (w.drewN n) fun e w'' => e = .returned v ∧ ∃ m, w'' = w.drewN m :=
  h.mono fun _ _ ⟨he, hm⟩ => ⟨he, n, hm.symm⟩
theorem quiet_add_left {P : Program} {f : FuncId} {args : Array Value} {w : World} {a n : Nat} {v : Value}
    (h : Calls P f args (w.drewN (a + n)) fun e w' => e = .returned v ∧ w.drewN (a + n) = w') :
    Calls P f args (w.drewN (a + n)) fun e w'' => e = .returned v ∧ ∃ m, w'' = w.drewN (a + m) :=
  h.mono fun _ _ ⟨he, hm⟩ => ⟨he, n, hm.symm⟩
theorem nhouses_of {x y : Int} {b : Bool} (h : Lnk.houses x y = b) (w : World) : Calls Try.prog 42 #[.int .i64 x, .int .i64 y] w fun e w' => e = .returned (.bool b) ∧ w = w' := by
  subst h
  exact nhouses_c w x y
set_option maxHeartbeats 1000000 in
theorem nRightA_c {a : Air} (h : AirV w v a) : Calls Try.prog 28 #[v] w (BoolTo w (Lnk.right a)) := by
  obtain ⟨v1, v2, rfl, hm, hc⟩ := h
  obtain ⟨A, cap, rfl, h1, h2, hf⟩ := Prs.form hc
  obtain ⟨Am, capm, rfl, h1m, h2m⟩ := SliceOf.shape hm
  have HF := Lib.hid hf
  have HM := Lib.hid hm
  clear hf hm hc
  unfold maxLen at h2 h2m
  go_enter Try.func28, Try.ntmps28
  go_wp2
  go_loopw [8] (fun i wr => ∃ k : Nat, k ≤ a.cs.length ∧ i = .int .i64 (k : Int) ∧ (∀ i (h : i < a.cs.length), i < k → Lnk.OkAt a.cs i h) ∧ Only NoF w wr ∧ Blk wr w.heap.size 25 #[.slice Am a.ms.length capm, .slice A a.cs.length cap]) (fun i _ => a.cs.length - (intOf i).toNat)
  case atStart => exact ⟨0, by omega, by go_num, by simp, (Only.refl _ _).alloc _, Blk.new w _ _⟩
  case round =>
    obtain ⟨k, hk, rfl, hp, hO, hK⟩ := hrel
    have HP := Lib.hid hp
    have k0 := hK.cell 0
    have k1 := hK.cell 1
    have HK := Lib.hid hK
    have hlK := hK.lt
    clear hp hK
    by_cases hlt : k < a.cs.length
    · obtain ⟨b, off, rfl, _, _, hc⟩ := HF.out k hlt
      obtain ⟨c0, c1⟩ := hc wr hO
      clear hc
      cases hb : Lnk.houses a.cs[k].x a.cs[k].y with
      | false =>
        have HH := Lib.hid (nhouses_of hb)
        go_wp2_with fail
        go_quiet ((go_at_call 42; first | with_reducible exact quiet_left (HH.out _) | with_reducible exact quiet_add_left (HH.out _)))
        go_wp2
        go_ret
        refine ⟨ret_bool ?_, (hO.alloc _).drewN _⟩
        rw [Lnk.right_eq, Lnk.cutsOk_bad hlt]
        · rfl
        · rintro ⟨h, _⟩
          simp [Lnk.okCut, hb] at h
      | true =>
        have HH := Lib.hid (nhouses_of hb)
        cases hg : decide (a.cs[k].y < a.cs[k].x) with
        | true =>
          go_wp2_with fail
          go_quiet ((go_at_call 42; first | with_reducible exact quiet_left (HH.out _) | with_reducible exact quiet_add_left (HH.out _)))
          go_wp2
          go_ret
          refine ⟨ret_bool ?_, (hO.alloc _).drewN _⟩
          rw [Lnk.right_eq, Lnk.cutsOk_bad hlt]
          · rfl
          · rintro ⟨h, _⟩
            simp only [Lnk.okCut, Bool.and_eq_true, decide_eq_true_eq] at h hg
            omega
        | false =>
          have hok : Lnk.okCut a.cs[k] = true := by
            simp only [Lnk.okCut, Bool.and_eq_true, decide_eq_true_eq, decide_eq_false_iff_not] at hg ⊢
            exact ⟨hb, by omega⟩
          have HOK := Lib.hid hok
          clear hok
          rcases Nat.eq_zero_or_pos k with rfl | hk0
          · simp only [Nat.zero_mul, Nat.add_zero] at c0 c1
            go_wp2_with fail
            go_quiet ((go_at_call 42; first | with_reducible exact quiet_left (HH.out _) | with_reducible exact quiet_add_left (HH.out _)))
            go_wp2
            go_roundw
            case rel =>
              refine ⟨1, by omega, by go_num, fun i hi h1 => ?_, (hO.alloc _).drewN _, (HK.out.alloc _).drewN _⟩
              obtain rfl : i = 0 := by omega
              exact ⟨HOK.out, fun j hj h => by omega⟩
            case measure => simp [intOf]; omega
          · obtain ⟨j, rfl⟩ : ∃ j, k = j + 1 := ⟨k - 1, by omega⟩
            obtain ⟨_, _, heq, _, _, hc⟩ := HF.out j (by omega)
            simp only [Option.some.injEq, Addr.mk.injEq, and_true] at heq
            obtain ⟨rfl, rfl⟩ := heq
            obtain ⟨e0, e1⟩ := hc wr hO
            have ks : ∀ w', Only NoF ((wr.alloc (.cells #[.int .i64 a.cs[j + 1].x, .int .i64 a.cs[j + 1].y] 60)).drew) w' → w'.cell? ⟨wr.heap.size, 0, none⟩ = some (.int .i64 a.cs[j + 1].x) ∧ w'.cell? ⟨wr.heap.size, 1, none⟩ = some (.int .i64 a.cs[j + 1].y) ∧ w'.cell? ⟨w.heap.size, 1, none⟩ = some (.slice (some ⟨b, off, none⟩) a.cs.length cap) ∧ w'.cell? ⟨b, off + j * 2, none⟩ = some (.int .i64 a.cs[j].x) ∧ w'.cell? ⟨b, off + j * 2 + 1, none⟩ = some (.int .i64 a.cs[j].y) := fun w' h => by
              have hn := (Blk.new wr 60 #[.int .i64 a.cs[j + 1].x, .int .i64 a.cs[j + 1].y]).drew.only h (fun h => h)
              have hq := ((HK.out.alloc (.cells #[.int .i64 a.cs[j + 1].x, .int .i64 a.cs[j + 1].y] 60)).drew.only h (fun h => h)).cell 1
              obtain ⟨z0, z1⟩ := hc w' ((hO.alloc (.cells #[.int .i64 a.cs[j + 1].x, .int .i64 a.cs[j + 1].y] 60)).drew.trans' h)
              exact ⟨(hn.cell 0).trans rfl, (hn.cell 1).trans rfl, hq.trans rfl, z0, z1⟩
            have KS := Lib.hid ks
            clear hc ks
            have hbf := beforeI_lt a.cs[j] a.cs[j + 1]
            have h33 : IntKind.i64.wrap (((j + 1 : Nat) : Int) - 1) = (j : Int) := by rw [IntWalk.i64_in _ (by omega)]; omega
            have h34 : IntKind.i64.wrap ((j : Int) + 1 - 1) = (j : Int) := by rw [IntWalk.i64_in _ (by omega)]; omega
            have h39 : IntKind.i64.wrap (j : Int) = (j : Int) := by rw [IntWalk.i64_in _ (by omega)]
            have h35 : (0 : Int) ≤ (j : Int) := by omega
            have h36 : (j : Int) < (a.cs.length : Int) := by omega
            have h37 : (j : Int).toNat = j := by omega
            have h38 : (0 : Int) < ((j + 1 : Nat) : Int) := by omega
            cases hl : Lnk.lt a.cs[j] a.cs[j + 1] <;> rw [hl] at hbf
            · have HL := Lib.hid hl
              clear hl
              go_wp2_with fail
              go_region_held3 (fun w' => w'.cell? ⟨wr.heap.size, 0, none⟩ = some (.int .i64 a.cs[j + 1].x) ∧ w'.cell? ⟨wr.heap.size, 1, none⟩ = some (.int .i64 a.cs[j + 1].y) ∧ w'.cell? ⟨w.heap.size, 1, none⟩ = some (.slice (some ⟨b, off, none⟩) a.cs.length cap) ∧ w'.cell? ⟨b, off + j * 2, none⟩ = some (.int .i64 a.cs[j].x) ∧ w'.cell? ⟨b, off + j * 2 + 1, none⟩ = some (.int .i64 a.cs[j].y))
                (first | go_keep | exact K2.out)
                (first
                  | (go_at_call 42; refine (HH.out _).mono ?_; rintro e w' ⟨rfl, rfl⟩)
                  | (go_at_call 52; refine (nbefore_c _ _ _).mono ?_; rintro e w2 ⟨rfl, hO2⟩; have K2 := Lib.hid (KS.out _ hO2)))
              go_wp2
              go_ret
              refine ⟨ret_bool ?_, (hO.alloc _).drew.trans' hO2⟩
              rw [Lnk.right_eq, Lnk.cutsOk_bad hlt]
              · rfl
              · rintro ⟨_, h⟩
                rw [h j (by omega) rfl] at HL
                exact absurd HL.out (by decide)
            · have HL := Lib.hid hl
              clear hl
              go_wp2_with fail
              go_region_held3 (fun w' => w'.cell? ⟨wr.heap.size, 0, none⟩ = some (.int .i64 a.cs[j + 1].x) ∧ w'.cell? ⟨wr.heap.size, 1, none⟩ = some (.int .i64 a.cs[j + 1].y) ∧ w'.cell? ⟨w.heap.size, 1, none⟩ = some (.slice (some ⟨b, off, none⟩) a.cs.length cap) ∧ w'.cell? ⟨b, off + j * 2, none⟩ = some (.int .i64 a.cs[j].x) ∧ w'.cell? ⟨b, off + j * 2 + 1, none⟩ = some (.int .i64 a.cs[j].y))
                (first | go_keep | exact K2.out)
                (first
                  | (go_at_call 42; refine (HH.out _).mono ?_; rintro e w' ⟨rfl, rfl⟩)
                  | (go_at_call 52; refine (nbefore_c _ _ _).mono ?_; rintro e w2 ⟨rfl, hO2⟩; have K2 := Lib.hid (KS.out _ hO2)))
              clear h33 h34 h39 h35 h36 h37 h38
              go_wp2
              go_roundw
              case rel =>
                refine ⟨j + 1 + 1, by omega, by go_num, fun i hi h1 => ?_, (hO.alloc _).drew.trans' hO2, ((HK.out.alloc _).drew).only hO2 fun h => h⟩
                rcases (by omega : i < j + 1 ∨ i = j + 1) with hi' | rfl
                · exact HP.out i hi hi'
                · refine ⟨HOK.out, fun j' hj h => ?_⟩
                  obtain rfl : j' = j := by omega
                  exact HL.out
              case measure => simp [intOf]; omega
    · obtain rfl : k = a.cs.length := by omega
      have hall := Lib.hid (show Lnk.cutsOk a.cs = true from Lnk.cutsOk_iff.2 fun i h => HP.out i h h)
      have HA := Lib.hid (hasFMsg_c (Msgs.keep HM.out hO))
      by_cases hm : (a.ms.length : Int) ≤ 1000
      · have HM2 := Lib.hid (show decide (a.ms.length ≤ 1000) = true from decide_eq_true (by omega))
        go_wp2_with (go_at_call 53; refine HA.out.mono ?_; rintro e w2 ⟨rfl, hO2⟩)
        go_ret
        exact ⟨ret_bool (by rw [Lnk.right_eq, hall.out, HM2.out]; simp), hO.trans' hO2⟩
      · have HM2 := Lib.hid (show decide (a.ms.length ≤ 1000) = false from decide_eq_false (by omega))
        go_wp2_with (go_at_call 53; refine HA.out.mono ?_; rintro e w2 ⟨rfl, hO2⟩)
        go_ret
        exact ⟨ret_bool (by rw [Lnk.right_eq, hall.out, HM2.out]; rfl), hO⟩
end
end Go.Proofs.Ytocbfobakmieoaa
