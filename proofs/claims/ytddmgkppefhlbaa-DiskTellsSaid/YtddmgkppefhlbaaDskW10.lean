/-
  The disk's Copy.
-/
import Derived.Test.YtddmgkppefhlbaaDskW9
import Derived.Test.YtddmgkppefhlbaaMClone
namespace Go.Proofs.Ytddmgkppefhlbaa
set_option linter.unusedVariables false
set_option linter.unusedSimpArgs false
set_option linter.unusedSectionVars false
open Go.RowKit

attribute [local go_sem] MapAt_setCell MapAt.alloc MapAt_drew cell?_putMap MapAt_putMap size_putMap

section
variable {w : World} {b : Nat} {D : Dsk} {F : Foot}

theorem copy_fin {x : DWit} {w3 : World} {c m base : Nat} {q1 : Value} {A' : Option Addr} {c' : Nat} (h : IsDiskW w3 b D x) (hC : Blk (w3.alloc (.map (x.sl.map (entOf keyS valB)).toArray x.sc)) c 56 #[.map (some x.mf), q1, .map (some x.ms), .int .i64 D.lost, .bool D.down, .int .i64 D.armed, x.kp])
    (hf : MapAt keyI valF w3 m x.fl x.fc) (hown : w3.ownsRow base 70 2 (.slice A' D.queue.length c') D.queue.length (secCells D.queue)) :
    IsDiskW ((((w3.alloc (.map (x.sl.map (entOf keyS valB)).toArray x.sc)).setCell ⟨c, 0, none⟩ (.map (some m))).setCell ⟨c, 1, none⟩ (.slice A' D.queue.length c')).setCell ⟨c, 2, none⟩ (.map (some w3.heap.size))) c D
      { x with mf := m, ms := w3.heap.size, q := .slice A' D.queue.length c' } := by
  have hf4 := hf.alloc (.map (x.sl.map (entOf keyS valB)).toArray x.sc)
  have hs4 : MapAt keyS valB (w3.alloc (.map (x.sl.map (entOf keyS valB)).toArray x.sc)) w3.heap.size x.sl x.sc := at_new _ _ _ rfl
  have o0 : Only NoF w3 (w3.alloc (.map (x.sl.map (entOf keyS valB)).toArray x.sc)) := (Only.refl NoF w3).alloc _
  have hown4 := own_only (own_base hown (Nat.zero_le _)) o0 fun _ _ h => h
  have hkp4 := own_only h.kpo o0 fun _ _ h => h
  have o5 : ∀ u1 u2 u3, Only (oneF c) (w3.alloc (.map (x.sl.map (entOf keyS valB)).toArray x.sc)) ((((w3.alloc (.map (x.sl.map (entOf keyS valB)).toArray x.sc)).setCell ⟨c, 0, none⟩ u1).setCell ⟨c, 1, none⟩ u2).setCell ⟨c, 2, none⟩ u3) := fun u1 u2 u3 =>
    (((Only.refl (oneF c) _).setCell (p := ⟨c, 0, none⟩) (.inl rfl) u1).setCell (p := ⟨c, 1, none⟩) (.inl rfl) u2).setCell (p := ⟨c, 2, none⟩) (.inl rfl) u3
  exact {
    blk := ((hC.set_ 0 _).set_ 1 _).set_ 2 _
    fm := hf4.only (o5 _ _ _) (map_ne_blk hf4 hC)
    sm := hs4.only (o5 _ _ _) (map_ne_blk hs4 hC)
    ne := by have := heap_lt hf; simp only; omega
    own := own_only hown4 (o5 _ _ _) fun k hk e => by
      obtain ⟨cur, hc⟩ := own_type hown4 k hk
      exact hc.ne_ hC (by decide) e
    kpo := own_only hkp4 (o5 _ _ _) fun k hk e => by
      obtain ⟨cur, hc⟩ := own_type hkp4 k hk
      exact hc.ne_ hC (by decide) e
    abs := h.abs
    fent := h.fent
    sent := h.sent
    fkey := h.fkey
    sset := h.sset
    ok := h.ok }

set_option maxHeartbeats 2000000 in
theorem dCopy_c (h : IsDisk w b D F) : Calls Try.prog 18 #[.pointer (some ⟨b, 0, none⟩)] w fun e w' => ∃ c F', e = .returned (.pointer (some ⟨c, 0, none⟩)) ∧ IsDisk w' c D F' ∧ Only NoF w w' ∧ (∀ k, F'.m k → w.heap.size ≤ k) ∧ ∀ k, F'.r k → F.r k := by
  obtain ⟨x, h, hF⟩ := h
  have H := Lib.hid h
  have HF := Lib.hid hF
  obtain ⟨d0, d1, d2, d3, d4, d5, d6⟩ := h.cells
  have hbl := h.blk.lt
  have hne : ¬ b = w.heap.size := by omega
  have hne' : ¬ w.heap.size = b := by omega
  obtain ⟨Aq, cq, eq_, hcq, hcm, hrq⟩ := Reads.of_own h.own
  rw [eq_] at d1
  obtain ⟨Ak, ck, ek, _, _, _⟩ := Reads.of_own h.kpo
  rw [ek] at d6
  have hql := h.ok.qlen
  clear h hF hrq
  go_enter Try.func18, Try.ntmps18
  go_wp2
  have H1 := Lib.hid ((H.out.only ((Only.refl NoF w).alloc (.cells #[.map (some x.mf), .slice Aq D.queue.length cq, .map (some x.ms), .int .i64 D.lost, .bool D.down, .int .i64 D.armed, .slice Ak D.keep.length ck] 56)) fun _ _ h => h).only ((Only.refl NoF _).drew) fun _ _ h => h)
  have HC := Lib.hid ((Blk.new w 56 #[.map (some x.mf), .slice Aq D.queue.length cq, .map (some x.ms), .int .i64 D.lost, .bool D.down, .int .i64 D.armed, .slice Ak D.keep.length ck]).drew)
  have HO := Lib.hid (((Only.refl NoF w).alloc (.cells #[.map (some x.mf), .slice Aq D.queue.length cq, .map (some x.ms), .int .i64 D.lost, .bool D.down, .int .i64 D.armed, .slice Ak D.keep.length ck] 56)).drew)
  have hs1 : (w.alloc (.cells #[.map (some x.mf), .slice Aq D.queue.length cq, .map (some x.ms), .int .i64 D.lost, .bool D.down, .int .i64 D.armed, .slice Ak D.keep.length ck] 56)).drew.heap.size = w.heap.size + 1 := by simp
  have g0 := H1.out.cells.1
  have g1 := H1.out.cells.2.1
  have g2 := H1.out.cells.2.2.1
  rw [eq_] at g1
  clear d0 d1 d2 d3 d4 d5 d6
  refine wp_region_reads [0, 1, 2, 3, 5, 6, 7, 8, 10, 11, 12, 13] [4, 9, 14, 15, 16, 17, 18, 19, 20] (fun _ w' => w'.cell? ⟨b, 0, none⟩ = some (.map (some x.mf)) ∧ w'.cell? ⟨b, 1, none⟩ = some (.slice Aq D.queue.length cq) ∧ w'.cell? ⟨b, 2, none⟩ = some (.map (some x.ms))) (by kernel_rfl) (by kernel_rfl) (fun _ _ _ _ _ h => h) ⟨g0, g1, g2⟩ ?_
  iterate 12
    refine wpReads_cons rfl ?_ (by rfl) (fun w' k hk hS => ?_) ?_
    rotate_left
    · obtain ⟨s0, s1, s2⟩ := hS
      go_simp
      with_reducible rfl
    try go_simp
  refine wpReads_nil ?_
  clear g0 g1 g2
  generalize (w.alloc (.cells #[.map (some x.mf), .slice Aq D.queue.length cq, .map (some x.ms), .int .i64 D.lost, .bool D.down, .int .i64 D.armed, .slice Ak D.keep.length ck] 56)).drew = W1 at H1 HC HO hs1 ⊢
  refine wpTail_cons rfl rfl ?_
  go_simp
  refine (cloneMF_c W1 x.mf _ _ H1.out.fm).mono ?_
  rintro e w2 ⟨rfl, rfl⟩
  have H2 := Lib.hid (H1.out.only ((Only.refl NoF W1).alloc (.map (x.fl.map (entOf keyI valF)).toArray x.fc)) fun _ _ h => h)
  have g0 := H2.out.cells.1
  have g1 := H2.out.cells.2.1
  have g2 := H2.out.cells.2.2.1
  rw [eq_] at g1
  refine ⟨⟨g0, g1, g2⟩, ?_⟩
  refine wpTail_cons rfl rfl ?_
  go_simp
  refine (cloneSec_c (W1.alloc (.map (x.fl.map (entOf keyI valF)).toArray x.fc)) _ Aq D.queue.length cq (secCells D.queue) (Reads.own (by rw [← eq_]; exact H2.out.own)) (by intro u hu; simp only [secCells, List.mem_flatMap] at hu; obtain ⟨p, _, hp⟩ := hu; simp at hp; rcases hp with rfl | rfl <;> rfl) (by omega)).mono ?_
  rintro e w3 ⟨A', c', rfl, ho3, hown3⟩
  have H3 := Lib.hid (H2.out.only ho3 fun _ _ h => h)
  clear g0 g1 g2
  have g0 := H3.out.cells.1
  have g1 := H3.out.cells.2.1
  have g2 := H3.out.cells.2.2.1
  rw [eq_] at g1
  refine ⟨⟨g0, g1, g2⟩, ?_⟩
  refine wpTail_cons rfl rfl ?_
  go_simp
  refine (cloneMS_c w3 x.ms _ _ H3.out.sm).mono ?_
  rintro e w4 ⟨rfl, rfl⟩
  have ho4 : Only NoF W1 (w3.alloc (.map (x.sl.map (entOf keyS valB)).toArray x.sc)) := (((Only.refl NoF W1).alloc _).trans' ho3).alloc _
  have H4 := Lib.hid (H3.out.only ((Only.refl NoF w3).alloc (.map (x.sl.map (entOf keyS valB)).toArray x.sc)) fun _ _ h => h)
  have HC4 := Lib.hid (HC.out.only ho4 id)
  clear g0 g1 g2
  have g0 := H4.out.cells.1
  have g1 := H4.out.cells.2.1
  have g2 := H4.out.cells.2.2.1
  rw [eq_] at g1
  refine ⟨⟨g0, g1, g2⟩, ?_⟩
  have k0 := HC4.out.cell 0
  have k1 := HC4.out.cell 1
  have k2 := HC4.out.cell 2
  have z0 := HC4.out.frozen 0
  have z1 := HC4.out.frozen 1
  have z2 := HC4.out.frozen 2
  have HO4 := Lib.hid (HO.out.trans' ho4)
  have HX := Lib.hid (And.intro ho3 hown3)
  have hs3 : W1.heap.size + 1 ≤ w3.heap.size := by have := ho3.size; simpa using this
  have hf3 : MapAt keyI valF w3 W1.heap.size x.fl x.fc := MapAt.only (at_new W1 (.map (x.fl.map (entOf keyI valF)).toArray x.fc) _ rfl) ho3 id
  have HF3 := Lib.hid hf3
  clear hf3 ho3 hown3 ho4
  iterate 3
    refine wpTail_run rfl rfl (by go_simp; exact ⟨rfl, rfl⟩) ⟨by go_simp, by go_simp, by go_simp⟩ ?_
    try go_simp
    refine wpTail_skip rfl rfl (by go_simp; with_reducible rfl) ⟨by go_simp, by go_simp, by go_simp⟩ ?_
    try go_simp
  refine wpTail_nil ?_
  try go_simp
  go_wp2_with fail
  go_ret
  have hfin := copy_fin H3.out (by rw [ek]; exact HC4.out) HF3.out HX.out.2
  rw [hs1] at hfin
  refine ⟨w.heap.size, _, rfl, ⟨_, hfin, rfl⟩, ?_, ?_, ?_⟩
  · exact (((HO4.out).setCell (p := ⟨w.heap.size, 0, none⟩) (.inr (Nat.le_refl _)) _).setCell (p := ⟨w.heap.size, 1, none⟩) (.inr (Nat.le_refl _)) _).setCell (p := ⟨w.heap.size, 2, none⟩) (.inr (Nat.le_refl _)) _
  · rintro k (hk | hk | hk | hk | hk)
    · omega
    · simp only at hk; omega
    · simp only at hk; omega
    · have := (HX.out.2.lt k hk).1
      simp at this
      omega
    · exact hk.elim
  · intro k hk
    rw [HF.out]
    exact hk
end
end Go.Proofs.Ytddmgkppefhlbaa
