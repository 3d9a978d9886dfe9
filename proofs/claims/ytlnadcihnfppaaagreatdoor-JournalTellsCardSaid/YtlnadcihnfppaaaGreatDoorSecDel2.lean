/-
  maps.DeleteFunc at the set of the sectors. No condition.
-/
import Derived.Test.YtlnadcihnfppaaaGreatDoorSecDel
namespace Go.Proofs.YtlnadcihnfppaaaGreatDoor
set_option linter.unusedVariables false
set_option linter.unusedSimpArgs false
set_option linter.unusedSectionVars false
set_option maxRecDepth 20000
open Go.RowKit

section
variable {w : World}

/-- some of a map's entries have come, of these the ones that the test names are struck -/
def struckL (f : Int) (l : List ((Int × Int) × Bool × Nat)) (seen : Array Nat) : List ((Int × Int) × Bool × Nat) := l.filter fun x => !(seen.contains x.2.2 && (x.1.1 == f))
theorem struckL_start (f : Int) (l : List ((Int × Int) × Bool × Nat)) : struckL f l #[] = l := by simp [struckL]
theorem struckL_end {f : Int} {l : List ((Int × Int) × Bool × Nat)} {seen : Array Nat} (h : leftL (struckL f l seen) seen = []) : struckL f l seen = l.filter fun x => keepP f x.1 := by
  unfold struckL keepP
  apply List.filter_congr
  intro x hx
  cases hs : seen.contains x.2.2 with
  | true => simp
  | false =>
    exfalso
    have : x ∈ leftL (struckL f l seen) seen := by
      unfold leftL struckL
      rw [List.mem_filter, List.mem_filter]
      simp only [hs]
      exact ⟨⟨hx, rfl⟩, rfl⟩
    rw [h] at this
    cases this
theorem struckL_stays {f : Int} {l : List ((Int × Int) × Bool × Nat)} {seen : Array Nat} {y : (Int × Int) × Bool × Nat} (hn : (l.map (·.2.2)).Nodup) (hy : y ∈ l) (hf : (y.1.1 == f) = false) : struckL f l (seen.push y.2.2) = struckL f l seen := by
  unfold struckL
  apply List.filter_congr
  intro x hx
  rw [Array.contains_push]
  by_cases he : x.2.2 = y.2.2
  · have : x = y := eq_of_nodup_map _ l hn x hx y hy he
    subst this
    simp [hf]
  · have : (x.2.2 == y.2.2) = false := by simp [he]
    rw [this, Bool.or_false]
theorem struckL_struck {f : Int} {l : List ((Int × Int) × Bool × Nat)} {seen : Array Nat} {y : (Int × Int) × Bool × Nat} (hk : (l.map (·.1)).Nodup) (hn : (l.map (·.2.2)).Nodup) (hy : y ∈ l) (hf : (y.1.1 == f) = true) : adel y.1 (struckL f l seen) = struckL f l (seen.push y.2.2) := by
  unfold struckL
  rw [adel_filter (hk.sublist ((List.filter_sublist).map _))]
  rw [List.filter_filter]
  apply List.filter_congr
  intro x hx
  rw [Array.contains_push]
  by_cases he : x = y
  · subst he
    simp [hf]
  · have h1 : ¬ y.1 = x.1 := fun e => he (eq_of_nodup_map _ l hk x hx y hy e.symm)
    have h2 : ¬ x.2.2 = y.2.2 := fun e => he (eq_of_nodup_map _ l hn x hx y hy e)
    have h3 : (x.2.2 == y.2.2) = false := by simp [h2]
    rw [h3, Bool.or_false]
    simp [h1]

set_option maxHeartbeats 400000 in
theorem mdelFSec_c (w : World) (r c : Nat) (l : List ((Int × Int) × Bool × Nat)) (hm : MapAt keyS valB w r l c) (hE : Entries l c) (f : Int) (gf : Nat) (hg : w.cell? ⟨gf, 0, none⟩ = some (.int .i64 f)) :
    Calls Tryz.prog 71 #[.map (some r), .func (.func 72) #[] #[.pointer (some ⟨gf, 0, none⟩)]] w
      fun e w' => e = .returned (.tuple #[]) ∧ MapAt keyS valB w' r (l.filter fun x => keepP f x.1) c ∧ Only (fun k => k = r) w w' := by
  have hrl := heap_lt hm
  have hgl := World.block_lt_of_cell? w _ hg
  have hgr : ¬ gf = r := fun e => by
    have : w.cell? ⟨r, 0, none⟩ = none := by simp [World.cell?, show w.heap[r]? = _ from hm]
    rw [e, this] at hg; cases hg
  have hrun := run_range_map (P := Tryz.prog) w 57 76 4 r (l.map (entOf keyS valB)).toArray c Tryz.underlying57 hm
  go_enter Tryz.func71, Tryz.ntmps71
  go_wp2
  have HE := Lib.hid hE
  have HM := Lib.hid hm
  clear hE hm hrun
  go_loopw [8] (fun _ wr => ∃ (seen : Array Nat) (c0 : Nat), IterAt wr w.heap.size r c seen c0 ∧ c ≤ c0 ∧ MapAt keyS valB wr r (struckL f l seen) c ∧ Only (fun k => k = r) w wr) (fun _ wr => iterLeft wr w.heap.size r)
  case atStart => exact ⟨#[], c, heap_alloc_new w _, Nat.le_refl _, by rw [struckL_start]; exact HM.out.alloc _, (Only.refl _ w).alloc _⟩
  case round =>
    obtain ⟨seen, c0, hI, hc0, hM, hO⟩ := hrel
    have hlt := heap_lt hI
    have HI := Lib.hid hI
    have HMr := Lib.hid hM
    have HO := Lib.hid hO
    rcases next_assoc (P := Tryz.prog) 0 hI hM (fun y hy => HE.out.lt y (List.mem_filter.1 hy).1) hc0 with ⟨hl, hn⟩ | ⟨y, hy, w1, hw1, hn⟩
    · clear hI hM hO
      go_wp2
      go_end0
      exact ⟨rfl, by rw [← struckL_end hl]; exact HMr.out, HO.out⟩
    · have hys : y ∈ struckL f l seen := (List.mem_filter.1 hy).1
      have hyl : y ∈ l := (List.mem_filter.1 hys).1
      have h1 : w1.heap = wr.heap := by rcases hw1 with rfl | rfl <;> rfl
      have hO1 : Only (fun k => k = r) w w1 := by rcases hw1 with rfl | rfl; exact hO; exact hO.drew
      have hs1 : w1.heap.size = wr.heap.size := by rw [h1]
      have hit1 : w.heap.size < w1.heap.size := by omega
      have hM1 : MapAt keyS valB w1 r (struckL f l seen) c := by unfold MapAt; rw [h1]; exact hM
      have hne : r ≠ w.heap.size := by omega
      have HI2 := Lib.hid (IterAt.put (w := w1) (r := r) (since := c) (seen := seen.push y.2.2) (c0 := c) hit1)
      have HM2 := Lib.hid (hM1.putOther hne (.mapIter (some r) c (seen.push y.2.2) c))
      have HO2 := Lib.hid (hO1.putMap (r := w.heap.size) (.inr (Nat.le_refl _)) (.mapIter (some r) c (seen.push y.2.2) c))
      have hnb : ((struckL f l seen).map (·.2.2)).Nodup := HE.out.born.sublist ((List.filter_sublist).map _)
      have hs2 : (World.putMap w1 w.heap.size (.mapIter (some r) c (seen.push y.2.2) c)).heap.size = wr.heap.size := by simp [World.putMap, hs1]
      generalize World.putMap w1 w.heap.size (.mapIter (some r) c (seen.push y.2.2) c) = W2 at hn HI2 HM2 HO2 hs2
      have hen := entry_assoc (P := Tryz.prog) HI2.out HM2.out hys hnb
      have hgc := (HO2.out.cell (p := ⟨gf, 0, none⟩) hgl hgr).trans hg
      have hcl := dsettle2_c (W2.alloc (.cells #[.int .i64 y.1.1, .int .i64 y.1.2] 76)) y.1 y.2.1 f gf (by rw [World.cell?_alloc_lt _ _ _ (World.block_lt_of_cell? _ _ hgc)]; exact hgc)
      have hdl := fun W hW ty => run_delete_assoc (P := Tryz.prog) (w := W) keyEqS Tryz.underlying57 hW ty 76 y.1 (ke := keyS) (ve := valB) (l := struckL f l seen) (r := r) (clock := c)
      clear hI hM hO hM1 hO1
      cases hb : (y.1.1 == f) <;> rw [hb] at hcl
      · go_wp2_with (go_at_call 72; refine hcl.mono ?_; rintro e w3 ⟨rfl, hB2⟩; have HB2 := Lib.hid hB2; clear hB2)
        have HM3 := (HM2.out.alloc (.cells #[.int .i64 y.1.1, .int .i64 y.1.2] 76)).below HB2.out (by simp; omega)
        have HI3 := (HI2.out.only (Only.refl NoF W2 |>.alloc (.cells #[.int .i64 y.1.1, .int .i64 y.1.2] 76)) id).below HB2.out (by simp; omega)
        have HO3 := (HO2.out.alloc (.cells #[.int .i64 y.1.1, .int .i64 y.1.2] 76)).trans' (Only.of_below HB2.out (Nat.le_refl _))
        go_roundw
        case rel =>
          refine ⟨seen.push y.2.2, c, HI3, Nat.le_refl _, ?_, HO3⟩
          rw [struckL_stays HE.out.born hyl hb]
          exact HM3
        case measure =>
          rw [iterLeft_eq HI.out HMr.out, iterLeft_eq HI3 HM3]
          exact leftL_push_lt hy
      · go_wp2_with (go_at_call 72; refine hcl.mono ?_; rintro e w3 ⟨rfl, hB2⟩; have hP := (Blk.new W2 76 #[.int .i64 y.1.1, .int .i64 y.1.2]).below hB2 (by simp); have p0 := hP.cell 0; have p1 := hP.cell 1; rw [hs2] at p0 p1; have hM3 := (HM2.out.alloc (.cells #[.int .i64 y.1.1, .int .i64 y.1.2] 76)).below hB2 (by simp; omega); have HB2 := Lib.hid hB2; clear hB2 hP)
        have HM3 := (HM2.out.alloc (.cells #[.int .i64 y.1.1, .int .i64 y.1.2] 76)).below HB2.out (by simp; omega)
        have HI3 := (HI2.out.only (Only.refl NoF W2 |>.alloc (.cells #[.int .i64 y.1.1, .int .i64 y.1.2] 76)) id).below HB2.out (by simp; omega)
        have HO3 := (HO2.out.alloc (.cells #[.int .i64 y.1.1, .int .i64 y.1.2] 76)).trans' (Only.of_below HB2.out (Nat.le_refl _))
        go_roundw
        case rel =>
          refine ⟨seen.push y.2.2, c, HI3.only (Only.refl (fun k => k = r) _ |>.putMap (.inl rfl) _) (fun e => hne e.symm), Nat.le_refl _, ?_, HO3.putMap (.inl rfl) _⟩
          rw [← struckL_struck HE.out.keys HE.out.born hyl hb]
          exact HM3.put _ _
        case measure =>
          rw [iterLeft_eq HI.out HMr.out, iterLeft_eq (HI3.only (Only.refl (fun k => k = r) _ |>.putMap (.inl rfl) _) (fun e => hne e.symm)) (HM3.put _ _)]
          refine Nat.lt_of_le_of_lt ?_ (leftL_push_lt hy)
          unfold struckL
          rw [adel_filter (HE.out.keys.sublist ((List.filter_sublist).map _))]
          exact leftL_filter_le _ _ _
end
end Go.Proofs.YtlnadcihnfppaaaGreatDoor
