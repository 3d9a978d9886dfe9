/-
  The reference's disk, walked: survive.
-/
import Derived.Test.YtddmgkppefhlbaaRefW5
import Derived.Test.YtddmgkppefhlbaaBits
namespace Go.Proofs.Ytddmgkppefhlbaa
set_option linter.unusedVariables false
set_option linter.unusedSimpArgs false
set_option linter.unusedSectionVars false
open Go.RowKit

section
variable {w : World} {b : Nat} {D : Dsk} {F : Foot}

theorem setFile_same (g : Int → Str × Str) (f : Int) : Dsk.setFile g f (g f) = g := by
  funext i
  simp only [Dsk.setFile]
  split
  · rename_i h; rw [h]
  · rfl

set_option maxRecDepth 100000 in
set_option maxHeartbeats 2000000 in
theorem rsurvive_c (h : IsRef w b D F) (f n : Int) (h0 : 0 ≤ f) (h1 : f < 16) (n0 : 0 ≤ n) (n1 : n ≤ 262144) :
    Calls Try.prog 52 #[.pointer (some ⟨b, 0, none⟩), .agg #[.int .i64 f, .int .i64 n]] w fun e w' => e = .returned (.tuple #[]) ∧ RefTo w b F { D with file := Dsk.survive D.file (f, n) } w' := by
  have hW := h.only ((Only.refl NoF w).alloc (.cells #[.int .i64 f, .int .i64 n] 78)) fun _ _ h => h
  have hget := rget_c hW f
  have hlf := (by obtain ⟨x, i, _⟩ := h; exact i.ok.lens f : (D.file f).1.length ≤ 16777216 ∧ (D.file f).2.length ≤ 16777216)
  obtain ⟨s1, s2, hss⟩ : ∃ s1 s2, D.file f = (s1, s2) := ⟨_, _, rfl⟩
  rw [hss] at hget hlf
  have HSS := Lib.hid hss
  have H := Lib.hid h
  have HG := Lib.hid hget
  obtain ⟨hl1, hl2⟩ := hlf
  simp only at hl1 hl2
  clear hss h hW hget
  go_enter Try.func52, Try.ntmps52
  go_wp2_with fail
  refine HG.out.mono ?_
  rintro e w1 ⟨rfl, hB1⟩
  have B1 := Lib.hid hB1
  have hP1 := (Blk.new w 78 #[.int .i64 f, .int .i64 n]).below hB1 (by simp)
  have p1 := hP1.cell 0
  have p2 := hP1.cell 1
  have hpl := hP1.lt
  have P1 := Lib.hid hP1
  have hsz := hB1.size
  simp only [World.size_alloc] at hsz
  have hne : ¬ w.heap.size = w1.heap.size := by omega
  clear hB1 hP1
  by_cases hlt : 64 * n < (s1.length : Int)
  · have hm0 : ∃ m : Int, (if (s1.length : Int) < 64 * n + 64 then (s1.length : Int) else 64 * n + 64) = m := ⟨_, rfl⟩
    obtain ⟨m, hm⟩ := hm0
    have hma : 0 ≤ m := by split at hm <;> omega
    have hmb : m ≤ (s1.length : Int) := by split at hm <;> omega
    have hmc : 64 * n ≤ m := by split at hm <;> omega
    have hwr : IntKind.i64.wrap (64 * n) = 64 * n := by rw [IntKind.wrap_i64]; omega
    have hwr2 : IntKind.i64.wrap (64 * n + 64) = 64 * n + 64 := by rw [IntKind.wrap_i64]; omega
    have a0 : 0 ≤ 64 * n := by omega
    have a1 : 64 * n ≤ 16777216 := by omega
    go_wp2_with fail
    have HF := Lib.hid ((Blk.new w1 65 #[.int .i64 f, strV s1, strV s2]).drew)
    have HPB := Lib.hid ((P1.out.alloc (.cells #[.int .i64 f, strV s1, strV s2] 65)).drew)
    have f1 := HF.out.cell 1
    have f2 := HF.out.cell 2
    have q1 := HPB.out.cell 1
    have hs2 : ((w1.alloc (.cells #[.int .i64 f, strV s1, strV s2] 65)).drew).heap.size = w1.heap.size + 1 := by simp
    have OW := Lib.hid ((((Only.of_below (F := NoF) ((Below.refl w.heap.size w).alloc (Nat.le_refl _) (.cells #[.int .i64 f, .int .i64 n] 78)) (Nat.le_refl _)).trans' (Only.of_below (F := NoF) B1.out (Nat.le_refl _))).alloc (.cells #[.int .i64 f, strV s1, strV s2] 65)).drew)
    refine wp_region_reads [0, 1, 2, 3, 4, 5, 6, 7, 8, 9, 10, 11, 12, 13, 14, 15, 16, 17, 18] [19, 20, 21] (fun k w' => k ≤ 1 → w'.cell? ⟨w.heap.size, 1, none⟩ = some (.int .i64 n) ∧ w'.cell? ⟨w1.heap.size, 1, none⟩ = some (strV s1) ∧ w'.cell? ⟨w1.heap.size, 2, none⟩ = some (strV s2)) (by kernel_rfl) (by kernel_rfl) (fun _ _ _ _ _ h => h) (fun _ => ⟨q1, f1, f2⟩) ?_
    iterate 19
      refine wpReads_cons rfl ?_ (by rfl) (fun w' k hk hS => ?_) ?_
      rotate_left
      · obtain ⟨s0, s1, s2⟩ := hS (by have := Nat.le_trans hk (Nat.le_of_ble_eq_true (m := 1) (by kernel_rfl)); omega)
        go_simp
        with_reducible rfl
      try go_simp
    refine wpReads_nil ?_
    refine wpTail_cons rfl rfl ?_
    have hsl : (s1.drop (64 * n).toNat).take (m.toNat - (64 * n).toNat) = (s1.drop (64 * n).toNat).take 64 := by
      split at hm
      · rw [List.take_of_length_le (by simp; omega), List.take_of_length_le (by simp; omega)]
      · rw [show m.toNat - (64 * n).toNat = 64 by omega]
    go_simp
    refine (rPut_c _ s2 ((s1.drop (64 * n).toNat).take 64) (64 * n) a0 a1 hl2 (by simp; omega)).mono ?_
    rintro e w6 ⟨rfl, ho6⟩
    have hF6 := HF.out.only ho6 id
    have hP6 := HPB.out.only ho6 id
    have f60 := hF6.cell 0
    have f61 := hF6.cell 1
    have f62 := hF6.cell 2
    have z62 := hF6.frozen 2
    have q61 := hP6.cell 1
    refine ⟨⟨q61, f61, f62⟩, ?_⟩
    clear f1 f2 q1
    refine wpTail_run rfl rfl (by go_simp; exact ⟨rfl, rfl⟩) (fun h => absurd h (by decide)) ?_
    try go_simp
    refine wpTail_skip rfl rfl (by go_simp; with_reducible rfl) (fun h => absurd h (by decide)) ?_
    try go_simp
    refine wpTail_nil ?_
    obtain ⟨y, hy⟩ : ∃ y, put s2 (64 * n).toNat ((s1.drop (64 * n).toNat).take 64) = y := ⟨_, rfl⟩
    have hyl : y.length ≤ 16777216 := by
      rw [← hy]
      exact length_put_le _ _ _ _ hl2 fun _ => by simp; omega
    have HY := Lib.hid hy
    rw [hy]
    have O6 := Lib.hid (OW.out.trans' ho6)
    have HST := Lib.hid (fun u => rset_c (H.out.only (O6.out.setCell (p := ⟨w1.heap.size, 2, none⟩) (.inr (by simp; omega)) u) fun _ _ h => h) f s1 y h0 h1 ⟨hl1, hyl⟩)
    have OST := Lib.hid (fun u => O6.out.setCell (p := ⟨w1.heap.size, 2, none⟩) (.inr (by simp; omega)) u)
    clear ho6 hF6 hP6 hy hm hsl
    go_wp2_with fail
    refine (HST.out _).mono ?_
    rintro e w7 ⟨rfl, h7⟩
    have R7 := Lib.hid (RefTo.trans ((OST.out _).mono fun _ h => h.elim) (fun _ hk => .inl hk) (fun _ hk => .inl hk) h7)
    clear h7
    go_wp2_with fail
    go_end0
    have e : Dsk.survive D.file (f, n) = Dsk.setFile D.file f (s1, y) := by
      unfold Dsk.survive
      simp only
      rw [HSS.out, if_pos (by simp only; omega), show n * 64 = 64 * n by omega]
      simp only
      rw [HY.out]
    rw [e]
    exact ⟨rfl, R7.out⟩
  · have HST := Lib.hid (fun u : Obj => rset_c (H.out.only (((Only.of_below (F := NoF) ((Below.refl w.heap.size w).alloc (Nat.le_refl _) (.cells #[.int .i64 f, .int .i64 n] 78)) (Nat.le_refl _)).trans' (Only.of_below (F := NoF) B1.out (Nat.le_refl _))).alloc u) fun _ _ h => h) f s1 s2 h0 h1 ⟨hl1, hl2⟩)
    have OST := Lib.hid (fun u : Obj => (((Only.of_below (F := NoF) ((Below.refl w.heap.size w).alloc (Nat.le_refl _) (.cells #[.int .i64 f, .int .i64 n] 78)) (Nat.le_refl _)).trans' (Only.of_below (F := NoF) B1.out (Nat.le_refl _))).alloc u))
    go_wp2_with fail
    refine (HST.out _).mono ?_
    rintro e w7 ⟨rfl, h7⟩
    have R7 := Lib.hid (RefTo.trans ((OST.out _).mono fun _ h => h.elim) (fun _ hk => .inl hk) (fun _ hk => .inl hk) h7)
    clear h7
    go_wp2_with fail
    go_end0
    have e : Dsk.survive D.file (f, n) = Dsk.setFile D.file f (s1, s2) := by
      unfold Dsk.survive
      simp only
      rw [← HSS.out, setFile_same, if_neg (by rw [HSS.out]; simp only; omega)]
    rw [e]
    exact ⟨rfl, R7.out⟩
end
end Go.Proofs.Ytddmgkppefhlbaa
