/-
  The link's do, walked: what is left. Condition: at most 1,000,000 elements.
-/
import Derived.Test.YtocbfobakmieoaaLkW15
namespace Go.Proofs.Ytocbfobakmieoaa
set_option linter.unusedVariables false
set_option linter.unusedSimpArgs false
set_option linter.unusedSectionVars false
open Go.RowKit

section
variable {w : World} {v : Value}
set_option maxRecDepth 100000 in
set_option maxHeartbeats 1000000 in
theorem ndo_d {a : Air} (h : AirV w v a) (hf : Few_ a) {e : Ev} (he : EvOk e) (hk : e.k < 0 ∨ 5 < e.k) : Calls Try.prog 51 #[v, evV e] w (DoTo w (Lnk.do_ a e)) := by
  have H := Lib.hid h
  have HOK := Lib.hid (AirV.oks h)
  obtain ⟨v1, v2, rfl, hm0, hc0⟩ := h
  clear hm0 hc0
  obtain ⟨ek, ea, eb, et⟩ := e
  obtain ⟨k1, k2, k3, k4⟩ := he
  simp only at hk
  have hch : ∀ W, Only NoF (((w.alloc (.cells #[v1, v2] 25)).alloc (.cells #[.int .i64 ek, .int .i64 ea, .int .i64 eb, strV et] 48)).alloc (.cells #[.slice none 0 0, .slice none 0 0] 25)) W → Only NoF w W := fun W o => ((((Only.refl NoF w).alloc _).alloc _).alloc _).trans' o
  have HCH := Lib.hid hch
  have HN := Lib.hid (fun (W : World) o => Blk.new_2 (w := w) (w' := W) (.cells #[v1, v2] 25) (.cells #[.int .i64 ek, .int .i64 ea, .int .i64 eb, strV et] 48) 25 #[.slice none 0 0, .slice none 0 0] o)
  have HM := Lib.hid (show MsgOk ⟨ea, eb, et⟩ from ⟨k2, k3, k4⟩)
  clear hch k1 k2 k3 k4
  have b0 : (ek == 0) = false := by simp; omega
  have b1 : (ek == 1) = false := by simp; omega
  have b2 : (ek == 2) = false := by simp; omega
  have b3 : (ek == 3) = false := by simp; omega
  have b4 : (ek == 4) = false := by simp; omega
  have b5 : (ek == 5) = false := by simp; omega
  have HE := Lib.hid (show Lnk.do_ a ⟨ek, ea, eb, et⟩ = (Lnk.none_, [], 1) by unfold Lnk.do_; rw [if_neg (by simp only; omega), if_neg (by simp only; omega), if_neg (by simp only; omega), if_neg (by simp only; omega), if_neg (by simp only; omega), if_neg (by simp only; omega)])
  clear hk
  go_enter Try.func51, Try.ntmps51
  go_wp2
  refine bodyPost_ret (results_row_tmp2 rfl _ _ (w.heap.size + 1 + 1) 25 #[.slice none 0 0, .slice none 0 0] (0, 0) _ rfl (HN.out _ (Only.refl _ _)) Try.underlying25 rfl (by kernel_rfl)) rfl ?_
  rw [HE.out]
  exact ⟨_, .slice none 0 0, rfl, ownNone _ _, okNone, World.ownsRow_nil _ _ _ _, (fun m h => by cases h), HCH.out _ (Only.refl _ _)⟩

set_option maxRecDepth 100000 in
set_option maxHeartbeats 1000000 in
theorem ndo_1 {a : Air} (h : AirV w v a) (hf : Few_ a) {e : Ev} (he : EvOk e) (hk : e.k = 1) : Calls Try.prog 51 #[v, evV e] w (DoTo w (Lnk.do_ a e)) := by
  have H := Lib.hid h
  have HOK := Lib.hid (AirV.oks h)
  obtain ⟨v1, v2, rfl, hm0, hc0⟩ := h
  clear hm0 hc0
  obtain ⟨ek, ea, eb, et⟩ := e
  obtain ⟨k1, k2, k3, k4⟩ := he
  obtain rfl : ek = 1 := hk
  have hch : ∀ W, Only NoF (((w.alloc (.cells #[v1, v2] 25)).alloc (.cells #[.int .i64 1, .int .i64 ea, .int .i64 eb, strV et] 48)).alloc (.cells #[.slice none 0 0, .slice none 0 0] 25)) W → Only NoF w W := fun W o => ((((Only.refl NoF w).alloc _).alloc _).alloc _).trans' o
  have HCH := Lib.hid hch
  have HN := Lib.hid (fun (W : World) o => Blk.new_2 (w := w) (w' := W) (.cells #[v1, v2] 25) (.cells #[.int .i64 1, .int .i64 ea, .int .i64 eb, strV et] 48) 25 #[.slice none 0 0, .slice none 0 0] o)
  have HM := Lib.hid (show MsgOk ⟨ea, eb, et⟩ from ⟨k2, k3, k4⟩)
  clear hch k1 k2 k3 k4
  have HE := Lib.hid (show Lnk.do_ a ⟨1, ea, eb, et⟩ = ((Lnk.deliver a ea).1, if (Lnk.deliver a ea).2.2 = 0 then [(Lnk.deliver a ea).2.1] else [], (Lnk.deliver a ea).2.2) from rfl)
  have HC := Lib.hid (fun (W : World) o => nDeliver_c (AirV.keep (w' := W) H.out o) hf ea)
  have HMO := Lib.hid (AirOk.deliver HOK.out ea)
  generalize Lnk.deliver a ea = r at HE HC HMO
  obtain ⟨ra, rm, rn⟩ := r
  obtain ⟨ti, hti, hz0, hz1, hz2⟩ := info_parts info_Msg
  go_enter Try.func51, Try.ntmps51
  go_wp2_with fail
  refine (HC.out _ ((HCH.out _ (Only.refl _ _)).alloc _)).mono ?_
  rintro e w2 ⟨v', rfl, ⟨u1, u2, rfl, r1, r2⟩, hok, o2⟩
  obtain ⟨E1, e1, rfl, _, _, _⟩ := Reads.of_own r1
  obtain ⟨E2, e2, rfl, _, _, _⟩ := Reads.of_own r2
  dsimp only at r1 r2 hok ⊢
  obtain ⟨c2, f2, s2⟩ := o2.rules
  have OA := Lib.hid (OwnAir.low (base' := w.heap.size + 1 + 1 + 1 + 1) (show OwnAir _ w2 (.agg #[.slice E1 ra.ms.length e1, .slice E2 ra.cs.length e2]) ra from ⟨_, _, rfl, r1, r2⟩) (by simp only [World.size_alloc]; omega))
  have N2 := Lib.hid (HN.out _ ((((Only.refl NoF _).alloc _)).trans' o2))
  have O2 := Lib.hid (HCH.out _ ((((Only.refl NoF _).alloc _)).trans' o2))
  have hsz : w.heap.size + 1 + 1 + 1 + 1 ≤ w2.heap.size := by simpa using s2
  clear o2 r1 r2
  by_cases hrn : rn = 0
  · subst hrn
    have hms : World.ownsRow w2 (w.heap.size + 1 + 1 + 1 + 1) 27 3 (.slice none 0 0) 0 [] := World.ownsRow_nil _ _ _ _
    have HMS := Lib.hid hms
    have HRD := Lib.hid (fun (W : World) (h : w2.heap.size = W.heap.size) => (show Reads (W.alloc (.cells #[.int .i64 rm.a, .int .i64 rm.b, strV rm.t] 27)) (fun k => k = w2.heap.size) 3 (some ⟨w2.heap.size, 0, none⟩) 1 (msgCells [rm]) from h ▸ reads_made W 27 3 1 (msgCells [rm]) rfl))
    clear hms
    go_wp2_with (at_builtin; (refine wpList_append_any _ rfl _ _ _ rfl (w.heap.size + 1 + 1 + 1 + 1) 27 ti _ 3 32 Try.underlying22 hti hz0 hz1 hz2 rfl (by decide) (.slice none 0 0) 0 [] rfl (World.ownsRow_nil _ _ _ _) _ _ 1 1 (msgCells [rm]) rfl (HRD.out _ (by simp only [World.size_setCell])) (msgCells_one [rm]) (by unfold maxLen; omega) (by omega) (by simp only [World.size_alloc, World.size_setCell]; omega) ?_); intro v' w3 hown hgrow hat; (have o3 := (Only.refl NoF _).grown hgrow (fun k hk => by cases hk)); obtain ⟨E3, e3, rfl, _, _, _⟩ := Reads.of_own hown; (have n3 := ((((N2.out.put2 (.slice E1 ra.ms.length e1) (.slice E2 ra.cs.length e2)).far3 (by omega) (.int .i64 rm.a) (.int .i64 rm.b) (strV rm.t)).alloc _).keep o3)); obtain ⟨c30, c31, c32, c33⟩ := n3.two; (have N3 := Lib.hid n3); (have O3 := Lib.hid o3); clear n3; (have HOWN := Lib.hid hown); clear o3 hown hgrow hat)
    refine bodyPost_ret (results_row_tmp2 rfl _ _ (w.heap.size + 1 + 1) 25 #[.slice E1 ra.ms.length e1, .slice E2 ra.cs.length e2] (0, 0) _ rfl ((((((N2.out.put2 _ _).far3 (by omega) _ _ _).alloc _).keep O3.out).put2 _ _)) Try.underlying25 rfl (by kernel_rfl)) rfl ?_
    rw [HE.out, if_pos trivial]
    refine ⟨_, _, rfl, (((((((OA.out.put2 (by omega) (Nat.le_refl _) _ _).put3 (by omega) _ _ _).keep ((Only.refl NoF _).alloc _)).keep O3.out).put2 (by omega) (Nat.le_refl _) _ _).low (by omega))), hok, ?_, (fun m h => by rw [List.mem_singleton.1 h]; exact HMO.out), ((((((O2.out.put2 (by omega) _ _).put3 (by omega) _ _ _).alloc _).trans' O3.out).put2 (by omega) _ _))⟩
    have z := HOWN.out
    rw [Nat.zero_add, List.nil_append] at z
    exact own_base (ownsRow_setCell_other (ownsRow_setCell_other z (a := ⟨w.heap.size + 1 + 1, 0, none⟩) (fun hk => by have h := z.lt _ hk; simp only at h; omega) _) (a := ⟨w.heap.size + 1 + 1, 1, none⟩) (fun hk => by have h := z.lt _ hk; simp only at h; omega) _) (by omega)
  · have hb : (rn == 0) = false := by simpa using hrn
    have HE2 := Lib.hid hrn
    clear hrn
    go_wp2
    refine bodyPost_ret (results_row_tmp2 rfl _ _ (w.heap.size + 1 + 1) 25 #[.slice E1 ra.ms.length e1, .slice E2 ra.cs.length e2] (0, 0) _ rfl (((N2.out.put2 _ _).far3 (by omega) _ _ _).put2 _ _) Try.underlying25 rfl (by kernel_rfl)) rfl ?_
    rw [HE.out, if_neg HE2.out]
    exact ⟨_, .slice none 0 0, rfl, ((((OA.out.put2 (by omega) (Nat.le_refl _) _ _).put3 (by omega) _ _ _).put2 (by omega) (Nat.le_refl _) _ _).low (by omega)), hok, World.ownsRow_nil _ _ _ _, (fun m h => by cases h), ((O2.out.put2 (by omega) _ _).put3 (by omega) _ _ _).put2 (by omega) _ _⟩

theorem ndo_c {a : Air} (h : AirV w v a) (hf : Few_ a) {e : Ev} (he : EvOk e) : Calls Try.prog 51 #[v, evV e] w (DoTo w (Lnk.do_ a e)) := by
  by_cases h1 : e.k = 1
  · exact ndo_1 h hf he h1
  by_cases h2 : e.k < 0 ∨ 5 < e.k
  · exact ndo_d h hf he h2
  · exact ndo_5 h hf he (by omega)

end
end Go.Proofs.Ytocbfobakmieoaa
