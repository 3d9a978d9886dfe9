/-
  The link's leaf functions, walked: houses, right, pair, cmp's Compare and Or, before. No condition: contracts.
-/
import Derived.Test.YtocbfobakmieoaaLkRep
import Derived.Test.YtocbfobakmieoaaRegion
import Derived.Deep.RegionHeld3
namespace Go.Proofs.Ytocbfobakmieoaa
set_option linter.unusedVariables false
set_option linter.unusedSimpArgs false
set_option linter.unusedSectionVars false
open Go.RowKit

section
variable (w : World)

set_option maxHeartbeats 400000 in
theorem nhouses_c (x y : Int) : Calls Try.prog 42 #[.int .i64 x, .int .i64 y] w fun e w' => e = .returned (.bool (Lnk.houses x y)) ∧ w = w' := by
  by_cases h1 : 0 ≤ x
  · by_cases h2 : x < 400
    · by_cases h3 : 0 ≤ y
      · by_cases h4 : y < 400
        · go_enter Try.func42, Try.ntmps42
          go_wp2
          go_ret
          refine ⟨ret_bool ?_, rfl⟩
          unfold Lnk.houses
          rw [Bool.eq_iff_iff]
          simp [h1, h2, h3, h4]
        · have e : Lnk.houses x y = false := by simp [Lnk.houses, h4]
          rw [e]
          clear e
          go_enter Try.func42, Try.ntmps42
          go_wp2
          go_ret
          exact ⟨rfl, rfl⟩
      · have e : Lnk.houses x y = false := by simp [Lnk.houses, h3]
        rw [e]
        clear e
        go_enter Try.func42, Try.ntmps42
        go_wp2
        go_ret
        exact ⟨rfl, rfl⟩
    · have e : Lnk.houses x y = false := by simp [Lnk.houses, h2]
      rw [e]
      clear e
      go_enter Try.func42, Try.ntmps42
      go_wp2
      go_ret
      exact ⟨rfl, rfl⟩
  · have e : Lnk.houses x y = false := by simp [Lnk.houses, h1]
    rw [e]
    clear e
    go_enter Try.func42, Try.ntmps42
    go_wp2
    go_ret
    exact ⟨rfl, rfl⟩

set_option maxHeartbeats 400000 in
theorem isNaN_c (x : Int) : Calls Try.prog 66 #[.int .i64 x] w fun e w' => e = .returned (.bool false) ∧ w = w' := by
  have hb : (x != x) = false := by simp
  go_enter Try.func66, Try.ntmps66
  go_wp2
  go_ret
  exact ⟨rfl, rfl⟩

def cmpI (x y : Int) : Int := if x < y then -1 else if y < x then 1 else 0
set_option maxHeartbeats 400000 in
theorem cmpCmp_c (x y : Int) : Calls Try.prog 63 #[.int .i64 x, .int .i64 y] w fun e w' => e = .returned (.int .i64 (cmpI x y)) ∧ w = w' := by
  by_cases h1 : x < y
  · have e : cmpI x y = -1 := by simp [cmpI, h1]
    rw [e]
    clear e
    go_enter Try.func63, Try.ntmps63
    go_wp2_with (go_at_call 66; refine (isNaN_c _ _).mono ?_; rintro e w' ⟨rfl, rfl⟩)
    go_ret
    exact ⟨rfl, rfl⟩
  · by_cases h2 : y < x
    · have e : cmpI x y = 1 := by simp [cmpI, h1, h2]
      rw [e]
      clear e
      go_enter Try.func63, Try.ntmps63
      go_wp2_with (go_at_call 66; refine (isNaN_c _ _).mono ?_; rintro e w' ⟨rfl, rfl⟩)
      go_ret
      exact ⟨rfl, rfl⟩
    · have e : cmpI x y = 0 := by simp [cmpI, h1, h2]
      rw [e]
      clear e
      go_enter Try.func63, Try.ntmps63
      go_wp2_with (go_at_call 66; refine (isNaN_c _ _).mono ?_; rintro e w' ⟨rfl, rfl⟩)
      go_ret
      exact ⟨rfl, rfl⟩

/-- cmp.Or of two numbers -/
def orI (x y : Int) : Int := if x = 0 then y else x
def OrTo (w : World) (x y : Int) (e : Ending) (w' : World) : Prop := e = .returned (.int .i64 (orI x y)) ∧ w = w'
set_option maxHeartbeats 400000 in
theorem cmpOr_c (g : Nat) (x y : Int) (h0 : w.cell? ⟨g, 0, none⟩ = some (.int .i64 x)) (h1 : w.cell? ⟨g, 1, none⟩ = some (.int .i64 y)) : Calls Try.prog 62 #[.slice (some ⟨g, 0, none⟩) 2 2] w (OrTo w x y) := by
  go_enter Try.func62, Try.ntmps62
  go_wp2
  go_loopw [8] (fun i wr => ∃ k : Nat, k ≤ 2 ∧ i = .int .i64 (k : Int) ∧ (0 < k → x = 0) ∧ (1 < k → y = 0) ∧ wr = w) (fun i _ => 2 - (intOf i).toNat)
  case atStart => exact ⟨0, by omega, by go_num, by simp, by simp, rfl⟩
  case round =>
    obtain ⟨k, hk, rfl, hx, hy, rfl⟩ := hrel
    have HX := Lib.hid hx
    have HY := Lib.hid hy
    clear hx hy
    rcases (by omega : k = 0 ∨ k = 1 ∨ k = 2) with rfl | rfl | rfl
    · by_cases hb : (x != 0) = true
      · go_wp2
        go_ret
        refine ⟨ret_int ?_, rfl⟩
        unfold orI
        rw [if_neg (by simpa using hb)]
      · have hb : (x != 0) = false := by simpa using hb
        go_wp2
        go_roundw
        case rel => exact ⟨1, by omega, by go_num, fun _ => by simpa using hb, by simp, trivial⟩
        case measure => simp [intOf]
    · by_cases hb : (y != 0) = true
      · go_wp2
        go_ret
        refine ⟨ret_int ?_, rfl⟩
        unfold orI
        rw [if_pos (HX.out (by omega))]
      · have hb : (y != 0) = false := by simpa using hb
        go_wp2
        go_roundw
        case rel => exact ⟨2, by omega, by go_num, fun _ => HX.out (by omega), fun _ => by simpa using hb, trivial⟩
        case measure => simp [intOf]
    · go_wp2
      go_ret
      refine ⟨ret_int ?_, rfl⟩
      unfold orI
      rw [if_pos (HX.out (by omega)), HY.out (by omega)]

theorem pairT {x y : Int} : x ≤ y → (Lnk.pair x y).x = x ∧ (Lnk.pair x y).y = y := fun h => ⟨by simp [Lnk.pair]; omega, by simp [Lnk.pair]; omega⟩
theorem pairF {x y : Int} : y ≤ x → (Lnk.pair x y).x = y ∧ (Lnk.pair x y).y = x := fun h => ⟨by simp [Lnk.pair]; omega, by simp [Lnk.pair]; omega⟩
def PairTo (w : World) (x y : Int) (e : Ending) (w' : World) : Prop := e = .returned (prV (Lnk.pair x y)) ∧ Only NoF w w'
theorem PairTo.of {w w' : World} {x y a b : Int} (h : min x y = a) (h2 : max x y = b) (ho : Only NoF w w') : PairTo w x y (.returned (.agg #[.int .i64 a, .int .i64 b])) w' := by
  subst h h2
  exact ⟨rfl, ho⟩
set_option maxHeartbeats 400000 in
theorem npair_c (x y : Int) : Calls Try.prog 46 #[.int .i64 x, .int .i64 y] w (PairTo w x y) := by
  go_enter Try.func46, Try.ntmps46
  go_wp2
  all_goals
    refine bodyPost_ret (results_cell_row rfl _ _ w.heap.size 60 _ (0, 0) _ rfl (Blk.new w _ _) Try.underlying60 rfl (by kernel_rfl)) rfl ?_
    exact PairTo.of (by omega) (by omega) ((Only.refl _ _).alloc _)

def BoolTo (w : World) (b : Bool) (e : Ending) (w' : World) : Prop := e = .returned (.bool b) ∧ Only NoF w w'
set_option maxHeartbeats 400000 in
theorem nright_c (m : Msg) : Calls Try.prog 35 #[msgV m] w (BoolTo w (Lnk.rightM m)) := by
  have hrt : (Lnk.houses m.a m.b && decide (m.t.length ≤ 20000)) = Lnk.rightM m := rfl
  have HR := Lib.hid hrt
  clear hrt
  cases hb : Lnk.houses m.a m.b with
  | true =>
    cases hc : decide (m.t.length ≤ 20000) with
    | true =>
      go_enter Try.func35, Try.ntmps35
      go_wp2_with (go_at_call 42; refine (nhouses_c _ _ _).mono ?_; rintro e w' ⟨rfl, rfl⟩)
      go_ret
      exact ⟨ret_bool (by rw [← HR.out, hb, hc]; first | (simp only [decide_eq_true_eq] at hc; simp; omega) | (simp only [decide_eq_false_iff_not] at hc; simp; omega)), by first | exact (Only.refl _ _).alloc _ | exact ((Only.refl _ _).alloc _).drew⟩
    | false =>
      go_enter Try.func35, Try.ntmps35
      go_wp2_with (go_at_call 42; refine (nhouses_c _ _ _).mono ?_; rintro e w' ⟨rfl, rfl⟩)
      go_ret
      exact ⟨ret_bool (by rw [← HR.out, hb, hc]; first | (simp only [decide_eq_true_eq] at hc; simp; omega) | (simp only [decide_eq_false_iff_not] at hc; simp; omega)), by first | exact (Only.refl _ _).alloc _ | exact ((Only.refl _ _).alloc _).drew⟩
  | false =>
    go_enter Try.func35, Try.ntmps35
    go_wp2_with (go_at_call 42; refine (nhouses_c _ _ _).mono ?_; rintro e w' ⟨rfl, rfl⟩)
    go_ret
    exact ⟨ret_bool (by rw [← HR.out, hb]; rfl), by first | exact (Only.refl _ _).alloc _ | exact ((Only.refl _ _).alloc _).drew⟩

set_option maxHeartbeats 400000 in
theorem nRight1_c (m : Msg) : Calls Try.prog 54 #[msgV m] w (BoolTo w (!Lnk.rightM m)) := by
  go_enter Try.func54, Try.ntmps54
  go_wp2_with (go_at_call 35; refine (nright_c _ _).mono ?_; rintro e w' ⟨rfl, hO⟩)
  go_ret
  exact ⟨rfl, ((Only.refl _ _).alloc _).trans' hO⟩

def beforeI (p q : Pr) : Int := orI (cmpI p.x q.x) (cmpI p.y q.y)
theorem cell3 (o1 o2 : Obj) (v1 v2 : Value) (t : TypeId) : (((w.alloc o1).alloc o2).alloc (.cells #[v1, v2] t)).drew.cell? ⟨w.heap.size + 1 + 1, 0, none⟩ = some v1 ∧ (((w.alloc o1).alloc o2).alloc (.cells #[v1, v2] t)).drew.cell? ⟨w.heap.size + 1 + 1, 1, none⟩ = some v2 := by
  have e : ((w.alloc o1).alloc o2).heap.size = w.heap.size + 1 + 1 := by simp
  have h := Blk.new ((w.alloc o1).alloc o2) t #[v1, v2]
  rw [e] at h
  exact ⟨(h.cell 0).trans rfl, (h.cell 1).trans rfl⟩
set_option maxHeartbeats 400000 in
theorem nbefore_c (p q : Pr) : Calls Try.prog 52 #[prV p, prV q] w fun e w' => e = .returned (.int .i64 (beforeI p q)) ∧ Only NoF w w' := by
  have h3 := fun (o1 o2 : Obj) (v1 v2 : Value) (t : TypeId) => cell3 w o1 o2 v1 v2 t
  go_enter Try.func52, Try.ntmps52
  go_wp2
  go_region_held3 (fun w' => w'.cell? ⟨w.heap.size, 0, none⟩ = some (.int .i64 p.x) ∧ w'.cell? ⟨w.heap.size, 1, none⟩ = some (.int .i64 p.y) ∧ w'.cell? ⟨w.heap.size + 1, 0, none⟩ = some (.int .i64 q.x) ∧ w'.cell? ⟨w.heap.size + 1, 1, none⟩ = some (.int .i64 q.y))
    (go_keep)
    (first
      | (go_at_call 63; refine (cmpCmp_c _ _ _).mono ?_; rintro e w' ⟨rfl, rfl⟩)
      | (go_at_call 62; refine (cmpOr_c _ _ (cmpI p.x q.x) (cmpI p.y q.y) ((h3 _ _ _ _ _).1) ((h3 _ _ _ _ _).2)).mono ?_; rintro e w' ⟨rfl, rfl⟩))
  go_wp2
  go_ret
  exact ⟨rfl, ((((Only.refl _ _).alloc _).alloc _).alloc _).drew⟩
end
end Go.Proofs.Ytocbfobakmieoaa
