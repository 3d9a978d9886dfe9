/-
  The link's do, walked. Condition: at most 1,000,000 elements.
-/
import Derived.Test.YtocbfobakmieoaaLkW14
namespace Go.Proofs.Ytocbfobakmieoaa
set_option linter.unusedVariables false
set_option linter.unusedSimpArgs false
set_option linter.unusedSectionVars false
open Go.RowKit

def DoTo (w : World) (r : Air × List Msg × Int) (e : Ending) (w' : World) : Prop :=
  ∃ v' m', e = .returned (.tuple #[v', m', .int .i64 r.2.2]) ∧ OwnAir w.heap.size w' v' r.1 ∧ AirOk r.1 ∧ w'.ownsRow w.heap.size 27 3 m' r.2.1.length (msgCells r.2.1) ∧ (∀ m ∈ r.2.1, MsgOk m) ∧ Only NoF w w'
abbrev evV (e : Ev) : Value := .agg #[.int .i64 e.k, .int .i64 e.a, .int .i64 e.b, strV e.t]
def EvOk (e : Ev) : Prop := I64 e.k ∧ I64 e.a ∧ I64 e.b ∧ e.t.length ≤ maxLen
theorem AirOk.deliver {a : Air} (h : AirOk a) (i : Int) : MsgOk (Lnk.deliver a i).2.1 := by
  unfold Lnk.deliver
  split
  · exact ⟨(by decide : -9223372036854775808 ≤ (0 : Int) ∧ (0 : Int) ≤ 9223372036854775807), (by decide : -9223372036854775808 ≤ (0 : Int) ∧ (0 : Int) ≤ 9223372036854775807), Nat.zero_le _⟩
  split
  · exact ⟨(by decide : -9223372036854775808 ≤ (0 : Int) ∧ (0 : Int) ≤ 9223372036854775807), (by decide : -9223372036854775808 ≤ (0 : Int) ∧ (0 : Int) ≤ 9223372036854775807), Nat.zero_le _⟩
  · rename_i h1 _
    simp only [Classical.not_not] at h1
    have hb := Lnk.bad_zero (by simpa using h1)
    exact h.1 _ (Lnk.msg_mem hb.2.1 hb.2.2)
theorem Blk.new_2 {w w' : World} (o o2 : Obj) (t : TypeId) (cs : Array Value) (h : Only NoF (((w.alloc o).alloc o2).alloc (.cells cs t)) w') : Blk w' (w.heap.size + 1 + 1) t cs := (Blk.new3 w o o2 t cs).keep h

section
variable {w : World} {v : Value}
set_option maxRecDepth 100000 in
set_option maxHeartbeats 2000000 in
theorem ndo_5 {a : Air} (h : AirV w v a) (hf : Few_ a) {e : Ev} (he : EvOk e) (h05 : e.k = 0 ∨ e.k = 2 ∨ e.k = 3 ∨ e.k = 4 ∨ e.k = 5) : Calls Try.prog 51 #[v, evV e] w (DoTo w (Lnk.do_ a e)) := by
  have H := Lib.hid h
  have HOK := Lib.hid (AirV.oks h)
  obtain ⟨v1, v2, rfl, hm0, hc0⟩ := h
  clear hm0 hc0
  obtain ⟨ek, ea, eb, et⟩ := e
  obtain ⟨k1, k2, k3, k4⟩ := he
  have hch : ∀ W, Only NoF (((w.alloc (.cells #[v1, v2] 25)).alloc (.cells #[.int .i64 ek, .int .i64 ea, .int .i64 eb, strV et] 48)).alloc (.cells #[.slice none 0 0, .slice none 0 0] 25)) W → Only NoF w W := fun W o => ((((Only.refl NoF w).alloc _).alloc _).alloc _).trans' o
  have HCH := Lib.hid hch
  have HN := Lib.hid (fun (W : World) o => Blk.new_2 (w := w) (w' := W) (.cells #[v1, v2] 25) (.cells #[.int .i64 ek, .int .i64 ea, .int .i64 eb, strV et] 48) 25 #[.slice none 0 0, .slice none 0 0] o)
  have HM := Lib.hid (show MsgOk ⟨ea, eb, et⟩ from ⟨k2, k3, k4⟩)
  clear hch k1 k2 k3 k4
  have H05 := Lib.hid h05
  clear h05
  by_cases hk0 : ek = 0
  · subst hk0
    have HE := Lib.hid (show Lnk.do_ a ⟨0, ea, eb, et⟩ = ((Lnk.send a ⟨ea, eb, et⟩).1, [], (Lnk.send a ⟨ea, eb, et⟩).2) from rfl)
    have HC := Lib.hid (fun (W : World) o => nSend_c (AirV.keep (w' := W) H.out o) hf HM.out)
    generalize Lnk.send a ⟨ea, eb, et⟩ = r at HE HC
    go_enter Try.func51, Try.ntmps51
    go_wp2_with fail
    refine (HC.out _ (HCH.out _ (Only.refl _ _))).mono ?_
    rintro e w2 ⟨v', rfl, ⟨u1, u2, rfl, r1, r2⟩, hok, o2⟩
    obtain ⟨E1, e1, rfl, _, _, _⟩ := Reads.of_own r1
    obtain ⟨E2, e2, rfl, _, _, _⟩ := Reads.of_own r2
    obtain ⟨c2, f2, s2⟩ := o2.rules
    have O2 := Lib.hid o2
    have OA := Lib.hid (OwnAir.low (base' := w.heap.size + 1 + 1 + 1) (show OwnAir _ w2 (.agg #[.slice E1 r.1.ms.length e1, .slice E2 r.1.cs.length e2]) r.1 from ⟨_, _, rfl, r1, r2⟩) (by simp only [World.size_alloc]; omega))
    clear o2 r1 r2
    go_wp2
    refine bodyPost_ret (results_row_tmp2 rfl _ _ (w.heap.size + 1 + 1) 25 #[.slice E1 r.1.ms.length e1, .slice E2 r.1.cs.length e2] (0, 0) _ rfl (((HN.out _ O2.out).put2 _ _).put2 _ _) Try.underlying25 rfl (by kernel_rfl)) rfl ?_
    rw [HE.out]
    exact ⟨_, .slice none 0 0, rfl, (((OA.out.put2 (by omega) (Nat.le_refl _) _ _).put2 (by omega) (Nat.le_refl _) _ _).low (by omega)), hok, World.ownsRow_nil _ _ _ _, (fun m h => by cases h), ((HCH.out _ O2.out).put2 (by omega) _ _).put2 (by omega) _ _⟩
  by_cases hk2 : ek = 2
  · subst hk2
    have HE := Lib.hid (show Lnk.do_ a ⟨2, ea, eb, et⟩ = ((Lnk.lose a ea).1, [], (Lnk.lose a ea).2) from rfl)
    have HC := Lib.hid (fun (W : World) o => nLose_c (AirV.keep (w' := W) H.out o) hf ea)
    generalize Lnk.lose a ea = r at HE HC
    go_enter Try.func51, Try.ntmps51
    go_wp2_with fail
    refine (HC.out _ (HCH.out _ (Only.refl _ _))).mono ?_
    rintro e w2 ⟨v', rfl, ⟨u1, u2, rfl, r1, r2⟩, hok, o2⟩
    obtain ⟨E1, e1, rfl, _, _, _⟩ := Reads.of_own r1
    obtain ⟨E2, e2, rfl, _, _, _⟩ := Reads.of_own r2
    obtain ⟨c2, f2, s2⟩ := o2.rules
    have O2 := Lib.hid o2
    have OA := Lib.hid (OwnAir.low (base' := w.heap.size + 1 + 1 + 1) (show OwnAir _ w2 (.agg #[.slice E1 r.1.ms.length e1, .slice E2 r.1.cs.length e2]) r.1 from ⟨_, _, rfl, r1, r2⟩) (by simp only [World.size_alloc]; omega))
    clear o2 r1 r2
    go_wp2
    refine bodyPost_ret (results_row_tmp2 rfl _ _ (w.heap.size + 1 + 1) 25 #[.slice E1 r.1.ms.length e1, .slice E2 r.1.cs.length e2] (0, 0) _ rfl (((HN.out _ O2.out).put2 _ _).put2 _ _) Try.underlying25 rfl (by kernel_rfl)) rfl ?_
    rw [HE.out]
    exact ⟨_, .slice none 0 0, rfl, (((OA.out.put2 (by omega) (Nat.le_refl _) _ _).put2 (by omega) (Nat.le_refl _) _ _).low (by omega)), hok, World.ownsRow_nil _ _ _ _, (fun m h => by cases h), ((HCH.out _ O2.out).put2 (by omega) _ _).put2 (by omega) _ _⟩
  by_cases hk3 : ek = 3
  · subst hk3
    have HE := Lib.hid (show Lnk.do_ a ⟨3, ea, eb, et⟩ = ((Lnk.double a ea).1, [], (Lnk.double a ea).2) from rfl)
    have HC := Lib.hid (fun (W : World) o => nDouble_c (AirV.keep (w' := W) H.out o) hf ea)
    generalize Lnk.double a ea = r at HE HC
    go_enter Try.func51, Try.ntmps51
    go_wp2_with fail
    refine (HC.out _ (HCH.out _ (Only.refl _ _))).mono ?_
    rintro e w2 ⟨v', rfl, ⟨u1, u2, rfl, r1, r2⟩, hok, o2⟩
    obtain ⟨E1, e1, rfl, _, _, _⟩ := Reads.of_own r1
    obtain ⟨E2, e2, rfl, _, _, _⟩ := Reads.of_own r2
    obtain ⟨c2, f2, s2⟩ := o2.rules
    have O2 := Lib.hid o2
    have OA := Lib.hid (OwnAir.low (base' := w.heap.size + 1 + 1 + 1) (show OwnAir _ w2 (.agg #[.slice E1 r.1.ms.length e1, .slice E2 r.1.cs.length e2]) r.1 from ⟨_, _, rfl, r1, r2⟩) (by simp only [World.size_alloc]; omega))
    clear o2 r1 r2
    go_wp2
    refine bodyPost_ret (results_row_tmp2 rfl _ _ (w.heap.size + 1 + 1) 25 #[.slice E1 r.1.ms.length e1, .slice E2 r.1.cs.length e2] (0, 0) _ rfl (((HN.out _ O2.out).put2 _ _).put2 _ _) Try.underlying25 rfl (by kernel_rfl)) rfl ?_
    rw [HE.out]
    exact ⟨_, .slice none 0 0, rfl, (((OA.out.put2 (by omega) (Nat.le_refl _) _ _).put2 (by omega) (Nat.le_refl _) _ _).low (by omega)), hok, World.ownsRow_nil _ _ _ _, (fun m h => by cases h), ((HCH.out _ O2.out).put2 (by omega) _ _).put2 (by omega) _ _⟩
  by_cases hk4 : ek = 4
  · subst hk4
    have HE := Lib.hid (show Lnk.do_ a ⟨4, ea, eb, et⟩ = ((Lnk.cut a ea eb).1, [], (Lnk.cut a ea eb).2) from rfl)
    have HC := Lib.hid (fun (W : World) o => nCut_c (AirV.keep (w' := W) H.out o) hf ea eb)
    generalize Lnk.cut a ea eb = r at HE HC
    go_enter Try.func51, Try.ntmps51
    go_wp2_with fail
    refine (HC.out _ (HCH.out _ (Only.refl _ _))).mono ?_
    rintro e w2 ⟨v', rfl, ⟨u1, u2, rfl, r1, r2⟩, hok, o2⟩
    obtain ⟨E1, e1, rfl, _, _, _⟩ := Reads.of_own r1
    obtain ⟨E2, e2, rfl, _, _, _⟩ := Reads.of_own r2
    obtain ⟨c2, f2, s2⟩ := o2.rules
    have O2 := Lib.hid o2
    have OA := Lib.hid (OwnAir.low (base' := w.heap.size + 1 + 1 + 1) (show OwnAir _ w2 (.agg #[.slice E1 r.1.ms.length e1, .slice E2 r.1.cs.length e2]) r.1 from ⟨_, _, rfl, r1, r2⟩) (by simp only [World.size_alloc]; omega))
    clear o2 r1 r2
    go_wp2
    refine bodyPost_ret (results_row_tmp2 rfl _ _ (w.heap.size + 1 + 1) 25 #[.slice E1 r.1.ms.length e1, .slice E2 r.1.cs.length e2] (0, 0) _ rfl (((HN.out _ O2.out).put2 _ _).put2 _ _) Try.underlying25 rfl (by kernel_rfl)) rfl ?_
    rw [HE.out]
    exact ⟨_, .slice none 0 0, rfl, (((OA.out.put2 (by omega) (Nat.le_refl _) _ _).put2 (by omega) (Nat.le_refl _) _ _).low (by omega)), hok, World.ownsRow_nil _ _ _ _, (fun m h => by cases h), ((HCH.out _ O2.out).put2 (by omega) _ _).put2 (by omega) _ _⟩
  by_cases hk5 : ek = 5
  · subst hk5
    have HE := Lib.hid (show Lnk.do_ a ⟨5, ea, eb, et⟩ = ((Lnk.heal a ea eb).1, [], (Lnk.heal a ea eb).2) from rfl)
    have HC := Lib.hid (fun (W : World) o => nHeal_c (AirV.keep (w' := W) H.out o) hf ea eb)
    generalize Lnk.heal a ea eb = r at HE HC
    go_enter Try.func51, Try.ntmps51
    go_wp2_with fail
    refine (HC.out _ (HCH.out _ (Only.refl _ _))).mono ?_
    rintro e w2 ⟨v', rfl, ⟨u1, u2, rfl, r1, r2⟩, hok, o2⟩
    obtain ⟨E1, e1, rfl, _, _, _⟩ := Reads.of_own r1
    obtain ⟨E2, e2, rfl, _, _, _⟩ := Reads.of_own r2
    obtain ⟨c2, f2, s2⟩ := o2.rules
    have O2 := Lib.hid o2
    have OA := Lib.hid (OwnAir.low (base' := w.heap.size + 1 + 1 + 1) (show OwnAir _ w2 (.agg #[.slice E1 r.1.ms.length e1, .slice E2 r.1.cs.length e2]) r.1 from ⟨_, _, rfl, r1, r2⟩) (by simp only [World.size_alloc]; omega))
    clear o2 r1 r2
    go_wp2
    refine bodyPost_ret (results_row_tmp2 rfl _ _ (w.heap.size + 1 + 1) 25 #[.slice E1 r.1.ms.length e1, .slice E2 r.1.cs.length e2] (0, 0) _ rfl (((HN.out _ O2.out).put2 _ _).put2 _ _) Try.underlying25 rfl (by kernel_rfl)) rfl ?_
    rw [HE.out]
    exact ⟨_, .slice none 0 0, rfl, (((OA.out.put2 (by omega) (Nat.le_refl _) _ _).put2 (by omega) (Nat.le_refl _) _ _).low (by omega)), hok, World.ownsRow_nil _ _ _ _, (fun m h => by cases h), ((HCH.out _ O2.out).put2 (by omega) _ _).put2 (by omega) _ _⟩
  have h05 := H05.out
  simp only at h05
  omega
end
end Go.Proofs.Ytocbfobakmieoaa
