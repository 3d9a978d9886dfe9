/-
  The disk's settle: a string becomes a file, durably; its sectors are not pending any more.
-/
import Derived.Test.YtlnadcihnfppaaaGreatDoorSecDel2
import Derived.Test.YtlnadcihnfppaaaGreatDoorDskW5
namespace Go.Proofs.YtlnadcihnfppaaaGreatDoor
set_option linter.unusedVariables false
set_option linter.unusedSimpArgs false
set_option linter.unusedSectionVars false
set_option maxRecDepth 20000
open Go.RowKit

attribute [local go_sem] MapAt_setCell MapAt.alloc MapAt_drew cell?_putMap MapAt_putMap size_putMap

section
variable {w : World} {b : Nat} {D : Dsk} {F : Foot}

theorem filter_keep (f : Int) (q : List (Int × Int)) : q.filter (keepP f) = q.filter fun p => !(p.1 == f) := rfl
theorem assoc_filter {κ β : Type} [DecidableEq κ] (p : κ → Bool) (k : κ) : ∀ (l : List (κ × β × Nat)), assoc k (l.filter fun x => p x.1) = if p k then assoc k l else none
  | [] => by simp [assoc]
  | x :: l => by
    rw [List.filter_cons]
    by_cases hk : k = x.1
    · subst hk
      by_cases hp : p x.1 = true
      · simp [hp, assoc]
      · simp only [hp, Bool.false_eq_true, if_false]
        rw [assoc_filter p x.1 l]
        simp [hp]
    · by_cases hp : p x.1 = true
      · simp only [hp, if_true, assoc, hk, if_false]
        exact assoc_filter p k l
      · simp only [hp, Bool.false_eq_true, if_false, assoc, hk]
        exact assoc_filter p k l
theorem Entries.filter_ {κ β : Type} {l : List (κ × β × Nat)} {c : Nat} (h : Entries l c) (p : κ × β × Nat → Bool) : Entries (l.filter p) c :=
  ⟨h.keys.sublist ((List.filter_sublist).map _), h.born.sublist ((List.filter_sublist).map _), fun y hy => h.lt y (List.mem_filter.1 hy).1⟩

theorem settle_fin {W W3 W5 : World} {x : DWit} (h : IsDiskW W b D x) (f : Int) {A : Option Addr} {c : Nat} (o3 : Only (fun k => x.q.ownBlock = some k) W W3)
    (hown : W3.ownsRow 0 76 2 (.slice A (D.queue.filter (keepP f)).length c) (D.queue.filter (keepP f)).length (secCells (D.queue.filter (keepP f))))
    (hat : (Value.slice A (D.queue.filter (keepP f)).length c).ownBlock = x.q.ownBlock) (hms : MapAt keyS valB W5 x.ms (x.sl.filter fun y => keepP f y.1) x.sc)
    (o5 : Only (fun k => k = x.ms) (W3.setCell ⟨b, 1, none⟩ (.slice A (D.queue.filter (keepP f)).length c)) W5) (ok : ({ D with queue := D.queue.filter (keepP f) } : Dsk).Ok) :
    IsDiskW W5 b { D with queue := D.queue.filter (keepP f) } { x with q := .slice A (D.queue.filter (keepP f)).length c, sl := x.sl.filter fun y => keepP f y.1 } := by
  obtain ⟨a1, a2, a3, a4, a5⟩ := h.apart
  have hb3 := h.blk.only o3 fun e => (a4 b e).1 rfl
  have hf3 := h.fm.only o3 fun e => (a4 _ e).2.1 rfl
  have hk3 := own_only h.kpo o3 fun k hk hq' => (a5 k hk).2.2.2 hq'
  have o4 : ∀ u, Only (oneF b) W3 (W3.setCell ⟨b, 1, none⟩ u) := fun u => (Only.refl (oneF b) W3).setCell (p := ⟨b, 1, none⟩) (.inl rfl) u
  exact {
    blk := (hb3.set_ 1 _).only o5 (Ne.symm a2)
    fm := (hf3.only (o4 _) a1).only o5 a3
    sm := hms
    ne := h.ne
    own := own_only (own_only hown (o4 _) fun k hk hh => (a4 k (by rw [← hat]; exact hk)).1 hh) o5 fun k hk hh => (a4 k (by rw [← hat]; exact hk)).2.2 hh
    kpo := own_only (own_only hk3 (o4 _) fun k hk hh => (a5 k hk).1 hh) o5 fun k hk hh => (a5 k hk).2.2.1 hh
    abs := h.abs
    fent := h.fent
    sent := h.sent.filter_ _
    fkey := h.fkey
    sset := fun p => by
      rw [assoc_filter (keepP f) p x.sl, h.sset]
      by_cases hp : keepP f p = true
      · simp [hp, List.mem_filter]
      · simp [hp, List.mem_filter]
    ok := ok }

set_option maxHeartbeats 1000000 in
theorem dsettle_c (h : IsDisk w b D F) (f : Int) (s : Str) (h0 : 0 ≤ f) (h1 : f < 16) (hs : s.length ≤ 16777216) :
    Calls Tryz.prog 51 #[.pointer (some ⟨b, 0, none⟩), .int .i64 f, strV s] w fun e w' => e = .returned (.tuple #[]) ∧ DiskTo w b F (D.settle f s) w' := by
  obtain ⟨x, h, hF⟩ := h
  have H := Lib.hid h
  have HF := Lib.hid hF
  obtain ⟨d0, d1, d2, _, _, _, _⟩ := h.cells
  have hnb : ¬ w.heap.size = b := by have := h.blk.lt; omega
  have hbl := h.blk.lt
  have hm1 := h.fm
  have hup := fun W hW => run_mapUpdate_assoc (P := Tryz.prog) (w := W) keyEqI Tryz.underlying56 hW f (s, s) (ve := valF) (l := x.fl) (r := x.mf) (clock := x.fc)
  clear h hF
  go_enter Tryz.func51, Tryz.ntmps51
  go_wp2
  go_region
  have HD := Lib.hid ((H.out.only (((Only.refl NoF w).alloc (.cells #[.int .i64 f] 3)).drew) fun _ _ h => h).putFile h0 h1 (y := (s, s)) ⟨hs, hs⟩)
  have HO := Lib.hid ((((Only.refl F.m w).alloc (.cells #[.int .i64 f] 3)).drew).putMap (r := x.mf) (.inl (by rw [HF.out]; exact .inr (.inl rfl))) (.map ((aput f (s, s) x.fc x.fl).map (entOf keyI valF)).toArray (if (assoc f x.fl).isSome then x.fc else x.fc + 1)))
  have hmfl := heap_lt H.out.fm
  have HG := Lib.hid (((Blk.new w 3 #[.int .i64 f]).drew).putMap (r := x.mf) (by omega) (.map ((aput f (s, s) x.fc x.fl).map (entOf keyI valF)).toArray (if (assoc f x.fl).isSome then x.fc else x.fc + 1)))
  clear hup d0 d1 d2 hm1
  generalize World.putMap _ x.mf _ = W2 at HD HO HG ⊢
  obtain ⟨_, d1, d2, _, _, _, _⟩ := HD.out.cells
  have hgc := HG.out.cell 0
  have hql := H.out.ok.qlen
  have hqf : x.q.ownBlock ≠ some w.heap.size := fun e => by
    have := own_lt H.out.own _ e
    omega
  have hdel := delFSec_c W2 x.q D.queue HD.out.own f w.heap.size hgc (by omega) hqf
  have hne1 : ¬ b = w.heap.size := by omega
  go_wp2_with (first
    | (go_at_call 69; (refine hdel.mono ?_; rintro e w3 ⟨A, c, rfl, hown, hat, o3⟩; have B3 := Lib.hid (HD.out.blk.only o3 fun e => (HD.out.apart.2.2.2.1 b e).1 rfl); have S3 := HD.out.sm.only o3 fun e => (HD.out.apart.2.2.2.1 _ e).2.2 rfl; have e1 := B3.out.cell 1; have e2 := B3.out.cell 2; have z1 := B3.out.frozen 1; have G3 := (o3.cell (p := ⟨w.heap.size, 0, none⟩) (World.block_lt_of_cell? _ _ hgc) (fun e => hqf e)).trans hgc; have hmd := fun u => mdelFSec_c (w3.setCell ⟨b, 1, none⟩ u) x.ms x.sc x.sl ((MapAt_setCell _ _).2 S3) HD.out.sent f w.heap.size ((World.cell?_setCell_other _ _ _ _ (fun e => hne1 (Addr.mk.inj e).1)).trans G3); have O3 := Lib.hid o3; have HW := Lib.hid (And.intro hown hat); clear o3 hown hat S3))
    | (go_at_call 71; refine (hmd _).mono ?_; rintro e w5 ⟨rfl, hms, o5⟩))
  go_end0
  refine ⟨rfl, ?_⟩
  have hfin := settle_fin HD.out f O3.out HW.out.1 HW.out.2 hms o5 (H.out.ok.settle h0 h1 hs)
  have hat := HW.out.2
  refine hfin.to (x := x) ?_ HF.out ?_
  · refine HO.out.trans' (((O3.out.mono ?_).setCell (p := ⟨b, 1, none⟩) (.inl ?_) _).trans' (o5.mono ?_))
    · intro k hk; rw [HF.out]; exact .inr (.inr (.inr (.inl hk)))
    · rw [HF.out]; exact .inl rfl
    · rintro k rfl; rw [HF.out]; exact .inr (.inr (.inl rfl))
  · rintro k (hk | hk | hk | hk | hk)
    · exact .inl (.inl hk)
    · exact .inl (.inr (.inl hk))
    · exact .inl (.inr (.inr (.inl hk)))
    · exact .inl (.inr (.inr (.inr (.inl (by rw [← hat]; exact hk)))))
    · exact .inl (.inr (.inr (.inr (.inr hk))))
end
end Go.Proofs.YtlnadcihnfppaaaGreatDoor
