/-
  The disk's calls Arm and New, walked.
-/
import Derived.Test.YtdegmpigkgkafaaGreatDoorDskW1
import Derived.Test.YtdegmpigkgkafaaGreatDoorClone
namespace Go.Proofs.YtdegmpigkgkafaaGreatDoor
set_option linter.unusedVariables false
set_option linter.unusedSimpArgs false
set_option linter.unusedSectionVars false
set_option maxRecDepth 20000
open Go.RowKit
section
variable {w : World} {b : Nat} {D : Dsk} {F : Foot}
theorem Ints.cells {S : Nat → Prop} {w : World} {v : Value} {l : List Int} (h : Ints S w v l) : ∃ A cap, v = .slice A l.length cap ∧ l.length ≤ cap ∧ cap ≤ maxLen ∧ Reads w S 1 A l.length (l.map (Value.int .i64)) := by
 obtain ⟨A, cap, xs, rfl, h1, h2, h3, h4⟩ := h
 have e : xs = l.map (Value.int .i64) := by
  apply List.ext_getElem?
  intro i
  rw [List.getElem?_map]
  have hl := h3.1
  cases hx : l[i]? with
  | none =>
   rw [List.getElem?_eq_none_iff] at hx
   rw [List.getElem?_eq_none (by omega)]
   rfl
  | some n =>
   obtain ⟨hc, _⟩ := h4 i n hx
   have h5 : ((xs.drop (i * 1)).take 1)[0]? = some (.int .i64 n) := by rw [hc]; rfl
   rw [List.getElem?_take, if_pos (by omega), List.getElem?_drop] at h5
   simpa using h5
 subst e
 exact ⟨A, cap, rfl, h1, h2, h3⟩
theorem arm_fin {x : DWit} {w1 : World} (h : IsDiskW w b D x) (ho : Only NoF w w1) {n : Int} (hn : I64 n) {keep : List Int} (hl : keep.length ≤ 1000) {A' : Option Addr} {c' : Nat}
 (hown : w1.ownsRow w.heap.size 3 1 (.slice A' keep.length c') keep.length (keep.map (Value.int .i64))) (u : Int) (hu : u = max n 0) :
 DiskTo w b (x.foot b) (D.arm n keep) ((w1.setCell ⟨b, 5, none⟩ (.int .i64 u)).setCell ⟨b, 6, none⟩ (.slice A' keep.length c')) := by
 subst hu
 have h1 := h.only ho fun _ _ h => h.elim
 have o1 : Only (oneF b) w1 ((w1.setCell ⟨b, 5, none⟩ (.int .i64 (max n 0))).setCell ⟨b, 6, none⟩ (.slice A' keep.length c')) :=
  ((Only.refl (oneF b) w1).setCell (p := ⟨b, 5, none⟩) (.inl rfl) _).setCell (p := ⟨b, 6, none⟩) (.inl rfl) _
 have hv := own_only (own_base hown (Nat.zero_le _)) o1 fun k hk => by
  obtain ⟨cur, hc⟩ := own_type hown k hk
  exact hc.ne_ h1.blk (by decide)
 have h2 := h1.rekeep (D' := D.arm n keep) o1 ((h1.blk.set_ 5 (.int .i64 (max n 0))).set_ 6 (.slice A' keep.length c')) hv rfl rfl (h.ok.arm n hn keep hl)
 refine h2.to (((ho.mono fun _ h => h.elim).setCell (p := ⟨b, 5, none⟩) (.inl (.inl rfl)) _).setCell (p := ⟨b, 6, none⟩) (.inl (.inl rfl)) _) rfl (fun k hk => ?_) fun k hk => .inr (hown.lt k hk).1
 rcases hk with hk | hk | hk | hk | hk
 · exact .inl (.inl hk)
 · exact .inl (.inr (.inl hk))
 · exact .inl (.inr (.inr (.inl hk)))
 · exact .inl (.inr (.inr (.inr (.inl hk))))
 · exact hk.elim
set_option maxHeartbeats 400000 in
theorem dArm_c (h : IsDisk w b D F) (n : Int) (hn : I64 n) {S : Nat → Prop} {v : Value} {keep : List Int} (hk : Ints S w v keep) (hl : keep.length ≤ 1000) :
 Calls Tryz.prog 12 #[.pointer (some ⟨b, 0, none⟩), .int .i64 n, v] w fun e w' => e = .returned (.tuple #[]) ∧ DiskTo w b F (D.arm n keep) w' := by
 obtain ⟨x, h, hF⟩ := h
 have HF := Lib.hid hF
 obtain ⟨A, cap, rfl, _, _, hr⟩ := hk.cells
 have hcl := cloneint_c w S A keep.length cap _ hr (ints_oneCell _ _) (by omega)
 have H := Lib.hid h
 clear hF hk hr h
 go_enter Tryz.func12, Tryz.ntmps12
 go_wp2_with (go_at_call 34; refine hcl.mono ?_; rintro e w1 ⟨A', c', rfl, ho, hown⟩; have hb1 := Lib.hid (H.out.blk.only ho id); have c5 := hb1.out.cell 5; have c6 := hb1.out.cell 6; have f5 := hb1.out.frozen 5; have f6 := hb1.out.frozen 6; simp only [List.getElem?_toArray, List.getElem?_cons_succ, List.getElem?_cons_zero] at c5 c6)
 all_goals
  go_end0
  rw [HF.out]
  exact ⟨rfl, arm_fin H.out ho hn hl hown _ (by omega)⟩
theorem new_disk (w : World) : let w' := ((w.alloc (.map #[] 0)).alloc (.map #[] 0)).alloc (.cells #[.map (some w.heap.size), .slice none 0 0, .map (some (w.heap.size + 1)), .int .i64 0, .bool false, .int .i64 0, .slice none 0 0] 58)
 IsDiskW w' (w.heap.size + 2) Dsk.init { mf := w.heap.size, ms := w.heap.size + 1, q := .slice none 0 0, kp := .slice none 0 0, fl := [], fc := 0, sl := [], sc := 0 } := by
 intro w'
 exact {
  blk := at_new _ _ _ (by simp)
  fm := (at_old _ _ _ (by simp; omega)).trans ((at_old _ _ _ (by simp)).trans (at_new _ _ _ rfl))
  sm := (at_old _ _ _ (by simp)).trans (at_new _ _ _ (by simp))
  ne := by simp
  own := World.ownsRow_nil _ _ _ _
  kpo := World.ownsRow_nil _ _ _ _
  abs := fun _ => rfl
  fent := ⟨by simp, by simp, by simp⟩
  sent := ⟨by simp, by simp, by simp⟩
  fkey := by simp
  sset := by simp [assoc, Dsk.init]
  ok := Dsk.init_ok }
/-- behind New: a disk of new blocks -/
def NewDisk (w : World) (b : Nat) (D : Dsk) (w' : World) : Prop := ∃ F, IsDisk w' b D F ∧ Only NoF w w' ∧ ∀ k, F.all k → w.heap.size ≤ k
set_option maxHeartbeats 400000 in
theorem dNew_c (w : World) : Calls Tryz.prog 6 #[] w fun e w' => ∃ b, e = .returned (.pointer (some ⟨b, 0, none⟩)) ∧ NewDisk w b Dsk.init w' := by
 have H := Lib.hid (new_disk w)
 have hmm := @run_makeMap Tryz.prog
 go_enter Tryz.func6, Tryz.ntmps6
 go_wp2
 go_ret
 refine ⟨_, rfl, _, ⟨_, H.out, rfl⟩, (((Only.refl _ w).alloc _).alloc _).alloc _, fun k hk => ?_⟩
 rcases hk with (hk | hk | hk | hk | hk) | hk
 · omega
 · simp only at hk; omega
 · simp only at hk; omega
 · simp [Value.ownBlock] at hk
 · exact hk.elim
 · simp [DWit.foot, Value.ownBlock] at hk
end
end Go.Proofs.YtdegmpigkgkafaaGreatDoor
