/-
  The reference's disk, walked: set.
-/
import Derived.Test.YtddmgkppefhlbaaRefW2
import Derived.Deep.QuietTactic
import Derived.BigQuiet
namespace Go.Proofs.Ytddmgkppefhlbaa
set_option linter.unusedVariables false
set_option linter.unusedSimpArgs false
set_option linter.unusedSectionVars false
open Go.RowKit

theorem info_RFile : (Try.prog.info? 65).map (fun i => (i.zero, i.size, i.bytes)) = some (some (.agg #[.int .i64 0, strV [], strV []]), 3, 40) := by kernel_rfl
theorem info_RSec : (Try.prog.info? 78).map (fun i => (i.zero, i.size, i.bytes)) = some (some (.agg #[.int .i64 0, .int .i64 0]), 2, 16) := by kernel_rfl

theorem belowN {B : Nat} {a w : World} (h : Below B a w) (n : Nat) : Below B a (w.drewN n) := ⟨h.os, h.tape, h.output, h.size, h.block⟩
theorem belowG {B : Nat} {a c d : World} {row : Option Nat} (h : Below B a c) (hg : c.grownBy d row) (hB : B ≤ c.heap.size) (hr : ∀ k, row = some k → B ≤ k) : Below B a d :=
  ⟨hg.os.trans h.os, hg.tape.trans h.tape, hg.output.trans h.output, Nat.le_trans h.size hg.size, fun i hi => (hg.block i (Nat.lt_of_lt_of_le hi hB) (fun e => by have := hr i e.symm; omega)).trans (h.block i hi)⟩
theorem blkN {w : World} {g : Nat} {t : TypeId} {cs : Array Value} (h : Blk w g t cs) (n : Nat) : Blk (w.drewN n) g t cs := h
/-- the cells of a block that was just made -/
theorem reads_made (w : World) (t : TypeId) (size n : Nat) (cs : List Value) (hl : cs.length = n * size) : Reads (w.alloc (.cells cs.toArray t)) (fun k => k = w.heap.size) size (some ⟨w.heap.size, 0, none⟩) n cs := by
  refine ⟨hl, fun _ => ⟨_, rfl, rfl, by simp, fun j u hu => ?_⟩⟩
  rw [Addr.add_lit, (Blk.new w t cs.toArray).cell]
  simpa using hu
theorem fileCells_append (a c : List (Int × Str × Str)) : fileCells (a ++ c) = fileCells a ++ fileCells c := by simp [fileCells]
theorem fileCells_length (a : List (Int × Str × Str)) : (fileCells a).length = a.length * 3 := by
  induction a with
  | nil => rfl
  | cons y a ih => rw [fileCells_cons]; simp [ih]; omega
theorem fileCells_one (fl : List (Int × Str × Str)) : ∀ u ∈ fileCells fl, u.oneCell' = true := by
  intro u hu
  simp only [fileCells, List.mem_flatMap] at hu
  obtain ⟨y, _, hy⟩ := hu
  simp at hy
  rcases hy with rfl | rfl | rfl <;> rfl
theorem filter_take_step {α : Type} (p : α → Bool) (l : List α) (k : Nat) (hk : k < l.length) : (l.take (k + 1)).filter p = (l.take k).filter p ++ if p l[k] then [l[k]] else [] := by
  rw [List.take_succ_eq_append_getElem hk, List.filter_append]
  congr 1
  by_cases h : p l[k] = true
  · simp [h]
  · simp [h]

/-- the files but for f -/
def rless (f : Int) (l : List (Int × Str × Str)) : List (Int × Str × Str) := l.filter fun y => y.1 != f
theorem rlook_app (f : Int) : ∀ (a c : List (Int × Str × Str)), rlook f (a ++ c) = if f ∈ a.map (·.1) then rlook f a else rlook f c
  | [], c => by simp
  | y :: a, c => by
    simp only [List.cons_append, rlook, List.map_cons, List.mem_cons]
    by_cases h : y.1 = f
    · simp [h]
    · rw [if_neg h, rlook_app f a c]
      have h2 : ¬ f = y.1 := fun e => h e.symm
      simp only [h2, false_or, if_neg h]
theorem rlook_less (f g : Int) (h : g ≠ f) : ∀ l : List (Int × Str × Str), rlook g (rless f l) = rlook g l
  | [] => rfl
  | y :: l => by
    unfold rless
    rw [List.filter_cons]
    by_cases hy : y.1 = f
    · have : (y.1 != f) = false := by simp [hy]
      rw [this]
      simp only [Bool.false_eq_true, if_false, rlook]
      rw [if_neg (by rw [hy]; exact Ne.symm h)]
      exact rlook_less f g h l
    · have : (y.1 != f) = true := by simp [hy]
      rw [this]
      simp only [if_true, rlook]
      split
      · rfl
      · exact rlook_less f g h l
theorem mem_rless {f : Int} {l : List (Int × Str × Str)} {y : Int × Str × Str} : y ∈ rless f l ↔ y ∈ l ∧ y.1 ≠ f := by
  simp [rless, List.mem_filter]
theorem rlook_miss {f : Int} : ∀ {l : List (Int × Str × Str)}, f ∉ l.map (·.1) → rlook f l = ([], [])
  | [], _ => rfl
  | y :: l, h => by
    simp only [List.map_cons, List.mem_cons, not_or] at h
    unfold rlook
    rw [if_neg (Ne.symm h.1)]
    exact rlook_miss h.2
theorem rlook_set (f g : Int) (x : Str × Str) (l : List (Int × Str × Str)) : rlook g (rless f l ++ [(f, x)]) = if g = f then x else rlook g l := by
  rw [rlook_app]
  by_cases h : g = f
  · subst h
    have : g ∉ (rless g l).map (·.1) := by
      intro hm
      obtain ⟨y, hy, e⟩ := List.mem_map.1 hm
      exact (mem_rless.1 hy).2 e
    rw [if_neg this]
    simp [rlook]
  · rw [if_neg h]
    split
    · exact rlook_less f g h l
    · rename_i hm
      have h2 : ¬ f = g := fun e => h e.symm
      simp only [rlook, if_neg h2]
      rw [← rlook_less f g h l, rlook_miss hm]
theorem rless_nodup {f : Int} {x : Str × Str} {l : List (Int × Str × Str)} (h : (l.map (·.1)).Nodup) : ((rless f l ++ [(f, x)]).map (·.1)).Nodup := by
  rw [List.map_append]
  refine List.nodup_append.2 ⟨?_, by simp, ?_⟩
  · exact h.sublist (List.Sublist.map _ List.filter_sublist)
  · intro a ha b hb
    simp at hb
    subst hb
    obtain ⟨y, hy, rfl⟩ := List.mem_map.1 ha
    exact (mem_rless.1 hy).2

section
variable {w : World} {b : Nat} {D : Dsk} {F : Foot}

theorem rset_fin {x : RWit} {w5 : World} (h : IsRefW w b D x) (hb : Below w.heap.size w w5) {f : Int} (h0 : 0 ≤ f) (h1 : f < 16) {y : Str × Str} (hy : y.1.length ≤ 16777216 ∧ y.2.length ≤ 16777216) {A : Option Addr} {c : Nat}
    (hown : w5.ownsRow w.heap.size 65 3 (.slice A (rless f x.fl ++ [(f, y)]).length c) (rless f x.fl ++ [(f, y)]).length (fileCells (rless f x.fl ++ [(f, y)]))) :
    RefTo w b (x.foot b) { D with file := Dsk.setFile D.file f y } (w5.setCell ⟨b, 0, none⟩ (.slice A (rless f x.fl ++ [(f, y)]).length c)) := by
  have h5 := h.only (Only.of_below (F := NoF) hb (Nat.le_refl _)) fun _ _ h => h
  obtain ⟨a1, a2, a3⟩ := h5.apart
  have ho : Only (oneF b) w5 (w5.setCell ⟨b, 0, none⟩ (.slice A (rless f x.fl ++ [(f, y)]).length c)) := (Only.refl (oneF b) w5).setCell (p := ⟨b, 0, none⟩) (.inl rfl) _
  have hbl := h.blk.lt
  have hI : IsRefW (w5.setCell ⟨b, 0, none⟩ (.slice A (rless f x.fl ++ [(f, y)]).length c)) b { D with file := Dsk.setFile D.file f y } { x with fv := .slice A (rless f x.fl ++ [(f, y)]).length c, fl := rless f x.fl ++ [(f, y)] } := {
    blk := h5.blk.set_ 0 _
    fo := own_only (own_base hown (Nat.zero_le _)) ho fun k hk e => by
      have := (hown.lt k hk).1
      have e' : k = b := e
      omega
    own := own_only h5.own ho fun k hk => (a2 k hk).1
    kpo := own_only h5.kpo ho fun k hk => (a3 k hk).1
    abs := fun g => by
      rw [rlook_set]
      simp only [Dsk.setFile]
      split
      · rfl
      · exact h.abs g
    keys := rless_nodup h.keys
    fkey := fun z hz => by
      rcases List.mem_append.1 hz with hz | hz
      · exact h.fkey z (mem_rless.1 hz).1
      · simp at hz
        subst hz
        exact ⟨h0, h1⟩
    ok := h.ok.setFile h0 h1 hy }
  refine hI.to (((Only.of_below (F := (x.foot b).m) hb (Nat.le_refl _))).setCell (p := ⟨b, 0, none⟩) (.inl (.inl rfl)) _) rfl fun k hk => ?_
  rcases hk with hk | hk | hk
  · exact .inl (.inl hk)
  · exact .inr (hown.lt k hk).1
  · exact .inl (.inr (.inr hk))

set_option maxRecDepth 100000 in
set_option maxHeartbeats 2000000 in
theorem rset_c (h : IsRef w b D F) (f : Int) (nw la : Str) (h0 : 0 ≤ f) (h1 : f < 16) (hy : nw.length ≤ 16777216 ∧ la.length ≤ 16777216) :
    Calls Try.prog 60 #[.pointer (some ⟨b, 0, none⟩), .agg #[.int .i64 f, strV nw, strV la]] w fun e w' => e = .returned (.tuple #[]) ∧ RefTo w b F { D with file := Dsk.setFile D.file f (nw, la) } w' := by
  obtain ⟨x, h, hF⟩ := h
  obtain ⟨A, c, e, hc1, hc2, hr⟩ := Reads.of_own h.fo
  have hl := h.len
  obtain ⟨d0, _⟩ := h.cells
  rw [e] at d0
  have hbl := h.blk.lt
  have hne : ¬ b = w.heap.size := by omega
  have z0 := h.blk.frozen 0
  have HR := Lib.hid hr
  have HF := Lib.hid hF
  have H := Lib.hid h
  obtain ⟨ti, hti, hz0, hz1, hz2⟩ := info_parts info_RFile
  clear hF h hr
  go_enter Try.func60, Try.ntmps60
  go_wp2_with fail
  have H1 := Lib.hid (And.intro ((Below.refl w.heap.size w).alloc (Nat.le_refl _) (.cells #[.int .i64 f, strV nw, strV la] 65)) (Blk.new w 65 #[.int .i64 f, strV nw, strV la]))
  go_loopw [4, 5] (fun v i wr => ∃ k : Nat, k ≤ x.fl.length ∧ i = .int .i64 (k : Int) ∧ wr.ownsRow (w.heap.size + 1) 65 3 v (rless f (x.fl.take k)).length (fileCells (rless f (x.fl.take k))) ∧ Below w.heap.size w wr ∧ Blk wr w.heap.size 65 #[.int .i64 f, strV nw, strV la]) (fun _ i _ => x.fl.length - (intOf i).toNat)
  case atStart => exact ⟨0, by omega, by go_num, by simpa [rless, fileCells] using World.ownsRow_nil _ _ _ _, H1.out.1, H1.out.2⟩
  case round =>
    obtain ⟨k, hk, rfl, hown, hB, hK⟩ := hrel
    have e0 := (hB.cell (p := ⟨b, 0, none⟩) hbl).trans d0
    have e9 := (hB.frozen (p := ⟨b, 0, none⟩) hbl).trans z0
    have k0 := hK.cell 0
    have k1 := hK.cell 1
    have k2 := hK.cell 2
    have hwk := hK.lt
    have hwb := hB.size
    have HB := Lib.hid hB
    have HK := Lib.hid hK
    have HOWN := Lib.hid hown
    obtain ⟨Av, cv, rfl, hv1, hv2, _⟩ := Reads.of_own hown
    have hrl : (rless f (x.fl.take k)).length ≤ 16 := by
      have := List.length_filter_le (fun y : Int × Str × Str => y.1 != f) (x.fl.take k)
      have h2 := List.length_take_le k x.fl
      unfold rless
      omega
    clear hB hK hown
    by_cases hlt : k < x.fl.length
    · obtain ⟨g, off, rfl, _, hg, hcc⟩ := HR.out.form (by omega) (by decide)
      obtain ⟨c0, c1, c2⟩ := fileCells_get x.fl k hlt
      have q0 : _ = _ := (HB.out.cell (p := ⟨g, off + k * 3, none⟩) hg).trans (hcc _ _ c0)
      have q1 : _ = _ := (HB.out.cell (p := ⟨g, off + k * 3 + 1, none⟩) hg).trans (hcc _ _ c1)
      have q2 : _ = _ := (HB.out.cell (p := ⟨g, off + k * 3 + 2, none⟩) hg).trans (hcc _ _ c2)
      clear c0 c1 c2 hcc
      have hst := filter_take_step (fun y : Int × Str × Str => y.1 != f) x.fl k hlt
      by_cases hf : x.fl[k].1 = f
      · have hb : (x.fl[k].1 != f) = false := by simp [hf]
        simp only [hb, Bool.false_eq_true, if_false, List.append_nil] at hst
        have HST := Lib.hid (show rless f (x.fl.take (k + 1)) = rless f (x.fl.take k) from hst)
        clear hst hf
        go_wp2_with fail
        go_quiet (fail)
        go_wp2_with fail
        go_roundw
        case rel => exact ⟨k + 1, by omega, by go_num, by rw [HST.out]; exact own_only HOWN.out ((Only.refl NoF _).drewN _) fun _ _ h => h, belowN HB.out _, HK.out.drewN _⟩
        case measure => simp [intOf]; omega
      · have hb : (x.fl[k].1 != f) = true := by simp [hf]
        simp only [hb, if_true] at hst
        have HST := Lib.hid (show rless f (x.fl.take (k + 1)) = rless f (x.fl.take k) ++ [x.fl[k]] from hst)
        clear hst hf
        go_wp2_with fail
        go_quiet (fail)
        go_wp2_with (at_builtin; (refine wpList_append_any _ rfl (.tmp 26) (.tmp 34) _ rfl (w.heap.size + 1) 65 ti _ 3 40 Try.underlying57 hti hz0 hz1 hz2 rfl (by decide) (.slice Av (rless f (x.fl.take k)).length cv) _ _ rfl (own_only HOWN.out (((Only.refl NoF wr).drewN _).alloc (.cells #[.int .i64 x.fl[k].1, strV x.fl[k].2.1, strV x.fl[k].2.2] 65)) fun _ _ h => h) _ _ 1 1 _ rfl (reads_made (wr.drewN _) 65 3 1 [.int .i64 x.fl[k].1, strV x.fl[k].2.1, strV x.fl[k].2.2] rfl) (by intro u hu; simp at hu; rcases hu with rfl | rfl | rfl <;> rfl) (by unfold maxLen; omega) (by omega) (by simp; omega) ?_); intro v' w1 hown1 hgrow hat)
        have hOW : ∀ j, (Value.slice Av (rless f (x.fl.take k)).length cv).ownBlock = some j → w.heap.size + 1 ≤ j := fun j hj => (HOWN.out.lt j hj).1
        have G1 := Lib.hid (show w1.ownsRow (w.heap.size + 1) 65 3 v' (rless f (x.fl.take (k + 1))).length (fileCells (rless f (x.fl.take (k + 1)))) by rw [HST.out, fileCells_append, List.length_append]; exact hown1)
        have G2 := Lib.hid (belowG ((belowN HB.out nq).alloc hwb _) hgrow (by simp; omega) fun j hj => by have := hOW j hj; omega)
        have G3 := Lib.hid (Blk.grown (((blkN HK.out nq).alloc _)) hgrow fun e => by have := hOW _ e.symm; omega)
        clear hown1 hgrow hat hOW
        go_roundw
        case rel => exact ⟨k + 1, by omega, by go_num, G1.out, G2.out, G3.out⟩
        case measure => simp [intOf]; omega
    · obtain rfl : k = x.fl.length := by omega
      have HX := Lib.hid (show wr.ownsRow (w.heap.size + 1) 65 3 (.slice Av (rless f x.fl).length cv) (rless f x.fl).length (fileCells (rless f x.fl)) by have := HOWN.out; rw [List.take_length] at this; exact this)
      rw [List.take_length] at hrl hv1
      have eT : rless f (x.fl.take x.fl.length) = rless f x.fl := by rw [List.take_length]
      rw [eT]
      clear HOWN eT
      go_wp2_with (at_builtin; (refine wpList_append_any _ rfl (.tmp 37) (.tmp 39) _ rfl (w.heap.size + 1) 65 ti _ 3 40 Try.underlying57 hti hz0 hz1 hz2 rfl (by decide) (.slice Av (rless f x.fl).length cv) _ _ rfl (own_only HX.out ((Only.refl NoF wr).alloc (.cells #[.int .i64 f, strV nw, strV la] 65)) fun _ _ h => h) _ _ 1 1 _ rfl (reads_made wr 65 3 1 [.int .i64 f, strV nw, strV la] rfl) (by intro u hu; simp at hu; rcases hu with rfl | rfl | rfl <;> rfl) (by unfold maxLen; omega) (by omega) (by simp; omega) ?_); intro v' w1 hown1 hgrow hat; have hOW : ∀ j, (Value.slice Av (rless f x.fl).length cv).ownBlock = some j → w.heap.size + 1 ≤ j := (fun j hj => (HX.out.lt j hj).1); have G1 := Lib.hid (show w1.ownsRow (w.heap.size + 1) 65 3 v' (rless f x.fl ++ [(f, nw, la)]).length (fileCells (rless f x.fl ++ [(f, nw, la)])) by rw [fileCells_append, List.length_append]; exact hown1); have G2 := Lib.hid (belowG (HB.out.alloc hwb _) hgrow (by simp; omega) (fun j hj => by have := hOW j hj; omega)); clear hown1 hgrow hat hOW; obtain ⟨A1, cc1, rfl, _, _, _⟩ := Reads.of_own G1.out; have e1 := (G2.out.cell (p := ⟨b, 0, none⟩) hbl).trans d0; have e2 := (G2.out.frozen (p := ⟨b, 0, none⟩) hbl).trans z0)
      go_end0
      refine ⟨rfl, ?_⟩
      rw [HF.out]
      have hfin := rset_fin H.out G2.out h0 h1 hy (own_base G1.out (by omega))
      rw [show (rless f x.fl ++ [(f, nw, la)]).length = (rless f x.fl).length + 1 by simp] at hfin
      exact hfin
end
end Go.Proofs.Ytddmgkppefhlbaa
