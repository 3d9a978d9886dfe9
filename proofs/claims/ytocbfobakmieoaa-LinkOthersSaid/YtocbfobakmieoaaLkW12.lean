/-
  The link's Heal, walked. Condition: at most 1,000,000 elements.
-/
import Derived.Test.YtocbfobakmieoaaLkW11
namespace Go.Proofs.Ytocbfobakmieoaa
set_option linter.unusedVariables false
set_option linter.unusedSimpArgs false
set_option linter.unusedSectionVars false
open Go.RowKit

namespace Lnk
theorem heal_at {l : List Pr} (hs : sorted l = true) {p : Pr} (hm : p ∈ l) : ∃ h : posC p l < l.length, l[posC p l] = p ∧ l.filter (fun q => q != p) = l.take (posC p l) ++ l.drop (posC p l + 1) := by
  have h1 := mem_pos hs (c := p) rfl
  rw [decide_eq_true hm] at h1
  split at h1
  · rename_i h
    have e : l[posC p l] = p := by simpa using h1.symm
    refine ⟨h, e, ?_⟩
    have hp := sorted_pairwise hs
    generalize posC p l = i at h e
    have el : l = l.take i ++ l[i] :: l.drop (i + 1) := by rw [← List.drop_eq_getElem_cons h, List.take_append_drop]
    have f1 : (l.take i).filter (fun q => q != p) = l.take i := List.filter_eq_self.2 fun q hq => by
      obtain ⟨t, ht, rfl⟩ := List.getElem_of_mem hq
      simp only [List.length_take] at ht
      rw [List.getElem_take]
      have := List.pairwise_iff_getElem.1 hp t i (by omega) h (by omega)
      rw [e] at this
      have hne : l[t] ≠ p := fun h => by rw [h, lt_irrefl] at this; cases this
      simpa using hne
    have f2 : (l.drop (i + 1)).filter (fun q => q != p) = l.drop (i + 1) := List.filter_eq_self.2 fun q hq => by
      obtain ⟨t, ht, rfl⟩ := List.getElem_of_mem hq
      simp only [List.length_drop] at ht
      rw [List.getElem_drop]
      have := List.pairwise_iff_getElem.1 hp i (i + 1 + t) h (by omega) (by omega)
      rw [e] at this
      have hne : l[i + 1 + t] ≠ p := fun h => by rw [h, lt_irrefl] at this; cases this
      simpa using hne
    conv => lhs; rw [el]
    rw [List.filter_append, List.filter_cons, e, f1, f2]
    simp
  · cases h1
end Lnk

section
variable {w : World} {v : Value}
set_option maxRecDepth 100000 in
set_option maxHeartbeats 1000000 in
theorem nHeal_c {a : Air} (h : AirV w v a) (hf : Few_ a) (x y : Int) : Calls Try.prog 20 #[v, .int .i64 x, .int .i64 y] w (AirTo w (Lnk.heal a x y)) := by
  have H := Lib.hid h
  have HOK := Lib.hid (AirV.oks h)
  obtain ⟨v1, v2, rfl, hm0, hc0⟩ := h
  clear hm0 hc0
  have HB := Lib.hid (fun (W : World) (o : Only NoF ((w.alloc (.cells #[v1, v2] 25)).alloc (.cells #[.slice none 0 0, .slice none 0 0] 25)) W) =>
    (⟨(((Only.refl NoF w).alloc _).alloc _).trans' o, ((Blk.new w 25 #[v1, v2]).alloc _).keep o, (Blk.new2 w _ 25 #[.slice none 0 0, .slice none 0 0]).keep o⟩ :
      Only NoF w W ∧ Blk W w.heap.size 25 #[v1, v2] ∧ Blk W (w.heap.size + 1) 25 #[.slice none 0 0, .slice none 0 0]))
  cases hr : Lnk.right a with
  | false =>
    have e : Lnk.heal a x y = (Lnk.none_, 1) := by unfold Lnk.heal; rw [if_pos (.inl hr)]
    rw [e]
    have HR := Lib.hid (nRightA_of H.out hr)
    clear e hr
    go_enter Try.func20, Try.ntmps20
    go_wp2_with fail
    refine (HR.out _ (HB.out _ (Only.refl _ _)).1).mono ?_
    rintro e w2 ⟨rfl, o1⟩
    obtain ⟨o, p1, p2⟩ := HB.out _ o1
    obtain ⟨x0, x1, x2, x3⟩ := p2.two
    have O := Lib.hid o
    have P2 := Lib.hid p2
    have hs := o.size
    clear o1 o p1 p2
    go_wp2
    refine bodyPost_ret (results_row_tmp rfl _ _ (w.heap.size + 1) 25 #[.slice none 0 0, .slice none 0 0] (0, 0) _ rfl (P2.out.put2 _ _) Try.underlying25 rfl (by kernel_rfl)) rfl ?_
    exact ⟨_, rfl, ownNone _ _, okNone, O.out.put2 (by omega) _ _⟩
  | true =>
    have HR := Lib.hid (nRightA_of H.out hr)
    cases hh : Lnk.houses x y with
    | false =>
      have e : Lnk.heal a x y = (Lnk.none_, 1) := by unfold Lnk.heal; rw [if_pos (.inr hh)]
      rw [e]
      have HH := Lib.hid (nhouses_of hh)
      clear e hr hh
      go_enter Try.func20, Try.ntmps20
      go_wp2_with fail
      refine (HR.out _ (HB.out _ (Only.refl _ _)).1).mono ?_
      rintro e w2 ⟨rfl, o1⟩
      go_wp2_with fail
      refine (HH.out _).mono ?_
      rintro e w3 ⟨rfl, rfl⟩
      obtain ⟨o, p1, p2⟩ := HB.out _ o1
      obtain ⟨x0, x1, x2, x3⟩ := p2.two
      have O := Lib.hid o
      have P2 := Lib.hid p2
      have hs := o.size
      clear o1 o p1 p2
      go_wp2
      refine bodyPost_ret (results_row_tmp rfl _ _ (w.heap.size + 1) 25 #[.slice none 0 0, .slice none 0 0] (0, 0) _ rfl (P2.out.put2 _ _) Try.underlying25 rfl (by kernel_rfl)) rfl ?_
      exact ⟨_, rfl, ownNone _ _, okNone, O.out.put2 (by omega) _ _⟩
    | true =>
      have HH := Lib.hid (nhouses_of hh)
      have hsrt := (Lnk.right_iff.1 hr).2.1
      have HFD := Lib.hid (fun (W : World) (o : Only NoF w W) => nfind_c (AirV.keep H.out o) hsrt hf x y)
      cases hc : Lnk.isCut a x y with
      | false =>
        have e : Lnk.heal a x y = (Lnk.none_, 4) := by unfold Lnk.heal; rw [if_neg (by simp [hr, hh]), if_pos hc]
        rw [e]
        rw [show decide (Lnk.pair x y ∈ a.cs) = false from hc] at HFD
        clear e hr hh hc hsrt
        go_enter Try.func20, Try.ntmps20
        go_wp2_with fail
        refine (HR.out _ (HB.out _ (Only.refl _ _)).1).mono ?_
        rintro e w2 ⟨rfl, o1⟩
        go_wp2_with fail
        refine (HH.out _).mono ?_
        rintro e w3 ⟨rfl, rfl⟩
        obtain ⟨o, p1, p2⟩ := HB.out _ o1
        obtain ⟨x0, x1, _, _⟩ := p1.two
        have O1 := Lib.hid o1
        clear o1 o p1 p2
        go_wp2_with fail
        refine (HFD.out _ (HB.out _ O1.out).1).mono ?_
        rintro e w4 ⟨rfl, o2⟩
        obtain ⟨o, p1, p2⟩ := HB.out _ (O1.out.trans' o2)
        obtain ⟨x0, x1, x2, x3⟩ := p2.two
        have O := Lib.hid o
        have P2 := Lib.hid p2
        have hs := o.size
        clear o2 o p1 p2
        go_wp2
        refine bodyPost_ret (results_row_tmp rfl _ _ (w.heap.size + 1) 25 #[.slice none 0 0, .slice none 0 0] (0, 0) _ rfl (P2.out.put2 _ _) Try.underlying25 rfl (by kernel_rfl)) rfl ?_
        exact ⟨_, rfl, ownNone _ _, okNone, O.out.put2 (by omega) _ _⟩
      | true =>
        have e : Lnk.heal a x y = ({ a with cs := a.cs.filter fun q => q != Lnk.pair x y }, 0) := by unfold Lnk.heal; rw [if_neg (by simp [hr, hh]), if_neg (by simp [hc])]
        rw [e]
        rw [show decide (Lnk.pair x y ∈ a.cs) = true from hc] at HFD
        obtain ⟨hk, _, hfl⟩ := Lnk.heal_at hsrt (p := Lnk.pair x y) (by simpa [Lnk.isCut] using hc)
        generalize Lnk.posC (Lnk.pair x y) a.cs = k at HFD hk hfl
        have HCL := Lib.hid (fun (W : World) (hW : Only NoF w W) => nclone_c (AirV.keep H.out hW) hf)
        obtain ⟨n, hn⟩ : ∃ n, a.cs.length = n + 1 := ⟨a.cs.length - 1, by omega⟩
        have hfm := hf.2
        have HFL := Lib.hid hfl
        have HOKF := Lib.hid (show AirOk { a with cs := a.cs.filter fun q => q != Lnk.pair x y } from ⟨HOK.out.1, fun p hp => HOK.out.2 p ((List.mem_filter.1 hp).1)⟩)
        clear e hr hh hc hsrt hfl
        have hwi : IntKind.i64.wrap ((k : Int) + 1) = ((k + 1 : Nat) : Int) := by rw [IntWalk.i64_in _ (by omega)]; rfl
        go_enter Try.func20, Try.ntmps20
        go_wp2_with fail
        refine (HR.out _ (HB.out _ (Only.refl _ _)).1).mono ?_
        rintro e w2 ⟨rfl, o1⟩
        go_wp2_with fail
        refine (HH.out _).mono ?_
        rintro e w3 ⟨rfl, rfl⟩
        obtain ⟨o, p1, p2⟩ := HB.out _ o1
        obtain ⟨x0, x1, _, _⟩ := p1.two
        have O1 := Lib.hid o1
        clear o1 o p1 p2
        go_wp2_with fail
        refine (HFD.out _ (HB.out _ O1.out).1).mono ?_
        rintro e w4 ⟨rfl, o2⟩
        obtain ⟨o, p1, p2⟩ := HB.out _ (O1.out.trans' o2)
        obtain ⟨x0, x1, _, _⟩ := p1.two
        have O2 := Lib.hid (O1.out.trans' o2)
        clear o2 o p1 p2
        go_wp2_with fail
        refine (HCL.out _ (HB.out _ O2.out).1).mono ?_
        rintro e w5 ⟨vv, rfl, ⟨u1, u2, rfl, r1, r2⟩, o3⟩
        obtain ⟨E1, e1, rfl, _, _, _⟩ := Reads.of_own r1
        obtain ⟨E2, e2, rfl, _, _, _⟩ := Reads.of_own r2
        have hs4 := O2.out.size
        simp only [World.size_alloc] at hs4
        rw [hn] at r2 ⊢
        obtain ⟨g, rfl, hg1, hg2⟩ := own_some r2
        obtain ⟨o, p1, p2⟩ := HB.out _ (O2.out.trans' o3)
        have hs := o.size
        have HNE := Lib.hid (own_ne r1 r2 (by decide))
        have R1 := Lib.hid (own_base (base' := w.heap.size + 1 + 1) r1 (by omega))
        have R2 := Lib.hid (own_base (base' := w.heap.size + 1 + 1) r2 (by omega))
        have O := Lib.hid o
        have P2 := Lib.hid p2
        clear o o3 p1 p2 r1 r2
        go_wp2_with fail
        refine (delPr_c (base := w.heap.size + 1 + 1) (i := k) (own_keep R2.out ((Only.refl NoF w5).alloc _)) (prCells_one _) (by omega) (by omega)).mono ?_
        rintro e w6 ⟨rfl, hrw, o4⟩
        have q2 := ((P2.out.alloc (.cells #[.slice E1 a.ms.length e1, .slice (some ⟨g, 0, none⟩) (n + 1) e2] 25)).only o4 fun h => by have : w.heap.size + 1 = g := h; omega)
        have q5 := (Blk.new w5 25 #[.slice E1 a.ms.length e1, .slice (some ⟨g, 0, none⟩) (n + 1) e2]).only o4 fun h => by have : w5.heap.size = g := h; omega
        have R1' := Lib.hid (own_only (own_keep R1.out ((Only.refl NoF w5).alloc (.cells #[.slice E1 a.ms.length e1, .slice (some ⟨g, 0, none⟩) (n + 1) e2] 25))) o4 fun j hj h => HNE.out j hj (by have : j = g := h; rw [this]; rfl))
        have O4 := Lib.hid ((O.out.alloc (.cells #[.slice E1 a.ms.length e1, .slice (some ⟨g, 0, none⟩) (n + 1) e2] 25)).trans o4 fun j hj => .inr (by have : j = g := hj; omega))
        obtain ⟨x0, x1, x2, x3⟩ := q2.two
        obtain ⟨y0, y1, y2, y3⟩ := q5.two
        have Q2 := Lib.hid q2
        have Q5 := Lib.hid q5
        have R2' := Lib.hid hrw
        have hne : ¬ w.heap.size + 1 = w5.heap.size := by omega
        have hne2 : ¬ w5.heap.size = w.heap.size + 1 := by omega
        clear q2 q5 hrw o4
        go_wp2
        refine bodyPost_ret (results_row_tmp rfl _ _ (w.heap.size + 1) 25 #[.slice E1 a.ms.length e1, .slice (some ⟨g, 0, none⟩) n e2] (0, 0) _ rfl ((Q2.out.far (p := ⟨w5.heap.size, 1, none⟩) hne _).put2 _ _) Try.underlying25 rfl (by kernel_rfl)) rfl ?_
        have z1 := own_blk_ne R1'.out Q5.out (by decide)
        have z2 := own_blk_ne R2'.out Q5.out (by decide)
        have hl : (a.cs.filter fun q => q != Lnk.pair x y).length = n := by
          rw [HFL.out, List.length_append, List.length_take, List.length_drop]
          omega
        have hown : OwnAir (w.heap.size + 1 + 1) (w6.setCell ⟨w5.heap.size, 1, none⟩ (.slice (some ⟨g, 0, none⟩) n e2)) (.agg #[.slice E1 a.ms.length e1, .slice (some ⟨g, 0, none⟩) n e2]) { a with cs := a.cs.filter fun q => q != Lnk.pair x y } :=
          ⟨_, _, rfl, ownsRow_setCell_other R1'.out (a := ⟨w5.heap.size, 1, none⟩) z1 _, by
            show World.ownsRow _ _ _ _ _ (a.cs.filter fun q => q != Lnk.pair x y).length (prCells (a.cs.filter fun q => q != Lnk.pair x y))
            rw [hl, HFL.out, prCells_append, prCells_take, prCells_drop]
            exact ownsRow_setCell_other R2'.out (a := ⟨w5.heap.size, 1, none⟩) z2 _⟩
        exact ⟨_, rfl, hown.put2 (by omega) (by omega) _ _, HOKF.out, (O4.out.setCell (.inr hs) _).put2 (by omega) _ _⟩
end
end Go.Proofs.Ytocbfobakmieoaa
