/-
  The link's reference: house, message, is, isCut, walked. No condition.
-/
import Derived.Test.YtocbfobakmieoaaLkV3
namespace Go.Proofs.Ytocbfobakmieoaa
set_option linter.unusedVariables false
set_option linter.unusedSimpArgs false
set_option linter.unusedSectionVars false
open Go.RowKit

namespace Lnk
theorem message_eq (m : Msg) : (((((decide (0 ≤ m.a) && decide (m.a < 400)) && (decide (0 ≤ m.b) && decide (m.b < 400))) && (!decide (m.a = m.b))) && decide ((m.t.length : Int) ≤ 20000)) : Bool) = rightM m := by
  rw [Bool.eq_iff_iff]
  simp only [rightM, houses, Bool.and_eq_true, decide_eq_true_eq, Bool.not_eq_true', decide_eq_false_iff_not]
  omega
theorem nocut_step {l : List Pr} {k : Nat} {p : Pr} {x y : Int} (hm : l[k]? = some p) (h : pair x y ∉ l.take k) (hc : (decide (p.x = min x y) && decide (p.y = max x y)) = false) : pair x y ∉ l.take (k + 1) := by
  obtain ⟨hk, rfl⟩ := List.getElem?_eq_some_iff.1 hm
  rw [List.take_succ_eq_append_getElem hk]
  intro h2
  rcases List.mem_append.1 h2 with h2 | h2
  · exact h h2
  · have := List.mem_singleton.1 h2
    rw [← this] at hc
    simp [pair] at hc
theorem cut_found {a : Air} {k : Nat} {p : Pr} {x y : Int} (hm : a.cs[k]? = some p) (hc : (decide (p.x = min x y) && decide (p.y = max x y)) = true) : isCut a x y = true := by
  have h1 := of_decide_eq_true (and_t hc).1
  have h2 := of_decide_eq_true (and_t hc).2
  have e : pair x y = p := by cases p; simp only at h1 h2; subst h1 h2; rfl
  unfold isCut
  rw [e]
  exact decide_eq_true (List.mem_of_getElem? hm)
theorem pos_of {k : Nat} (h : decide (0 < (k : Int)) = true) : 0 < k := by have := of_decide_eq_true h; omega
theorem rm_step {l : List Msg} {k : Nat} {x : Msg} (hm : l[k]? = some x) (h : ∀ m ∈ l.take k, rightM m = true) (hc : rightM x = true) : ∀ m ∈ l.take (k + 1), rightM m = true := by
  obtain ⟨hk, rfl⟩ := List.getElem?_eq_some_iff.1 hm
  rw [List.take_succ_eq_append_getElem hk]
  intro m h2
  rcases List.mem_append.1 h2 with h2 | h2
  · exact h m h2
  · rw [List.mem_singleton.1 h2]; exact hc
theorem right_false_ {a : Air} (h : ¬ right a = true) : right a = false := by simpa using h
theorem rm_bad {a : Air} {k : Nat} {x : Msg} (hm : a.ms[k]? = some x) (hc : rightM x = false) : right a = false := by
  refine right_false_ fun h => ?_
  have := (right_iff.1 h).2.2.2 x (List.mem_of_getElem? hm)
  rw [hc] at this; cases this
theorem right_long {a : Air} (h : (1000 : Int) < (a.ms.length : Int)) : right a = false := by
  refine right_false_ fun h' => ?_
  have := (right_iff.1 h').2.2.1
  omega
theorem okAt_of {l : List Pr} {k : Nat} {c p : Pr} {A : Option Addr} (hm : l[k]? = some c) (hx : 0 < k → l[k - 1]? = some p ∧ KPr.ok p ∧ A.isSome = true) (hk : k < l.length) :
    OkAt l k hk ↔ ((((!(decide (0 ≤ c.x) && decide (c.x < 400))) || (!(decide (0 ≤ c.y) && decide (c.y < 400)))) || decide (c.y ≤ c.x)) = false ∧
      (decide (0 < (k : Int)) && (decide (c.x < p.x) || (decide (p.x = c.x) && decide (c.y ≤ p.y)))) = false) := by
  obtain ⟨_, rfl⟩ := List.getElem?_eq_some_iff.1 hm
  have hA : okCut l[k] = true ↔ (((!(decide (0 ≤ l[k].x) && decide (l[k].x < 400))) || (!(decide (0 ≤ l[k].y) && decide (l[k].y < 400)))) || decide (l[k].y ≤ l[k].x)) = false := by
    simp only [okCut, houses, Bool.and_eq_true, decide_eq_true_eq, Bool.or_eq_false_iff, Bool.not_eq_false', decide_eq_false_iff_not]
    omega
  unfold OkAt
  rw [hA]
  refine and_congr_right fun _ => ?_
  by_cases h0 : 0 < k
  · obtain ⟨h1, _⟩ := hx h0
    obtain ⟨hk1, rfl⟩ := List.getElem?_eq_some_iff.1 h1
    have e : (∀ j (hj : j < l.length), k = j + 1 → lt l[j] l[k] = true) ↔ lt l[k - 1] l[k] = true := by
      constructor
      · intro h; exact h (k - 1) hk1 (by omega)
      · intro h j hj e
        have : j = k - 1 := by omega
        subst this; exact h
    rw [e]
    have h3 : (0 : Int) < (k : Int) := by omega
    simp only [lt, decide_eq_true_eq, Bool.and_eq_false_iff, Bool.or_eq_false_iff, decide_eq_false_iff_not]
    omega
  · constructor
    · intro _
      have : decide (0 < (k : Int)) = false := decide_eq_false (by omega)
      rw [this]; rfl
    · intro _ j hj e; omega
theorem oc_step {l : List Pr} {k : Nat} {c p : Pr} {A : Option Addr} (hm : l[k]? = some c) (h : ∀ i (h : i < l.length), i < k → OkAt l i h) (h4 : (((!(decide (0 ≤ c.x) && decide (c.x < 400))) || (!(decide (0 ≤ c.y) && decide (c.y < 400)))) || decide (c.y ≤ c.x)) = false)
    (hx : 0 < k → l[k - 1]? = some p ∧ KPr.ok p ∧ A.isSome = true) (h5 : (decide (0 < (k : Int)) && (decide (c.x < p.x) || (decide (p.x = c.x) && decide (c.y ≤ p.y)))) = false) : ∀ i (h : i < l.length), i < k + 1 → OkAt l i h := by
  intro i hi hlt
  rcases Nat.lt_or_ge i k with h1 | h1
  · exact h i hi h1
  · have : i = k := by omega
    subst this
    exact (okAt_of hm hx hi).2 ⟨h4, h5⟩
theorem oc_bad {a : Air} {k : Nat} {c : Pr} (hm : a.cs[k]? = some c) (h4 : (((!(decide (0 ≤ c.x) && decide (c.x < 400))) || (!(decide (0 ≤ c.y) && decide (c.y < 400)))) || decide (c.y ≤ c.x)) = true) : right a = false := by
  refine right_false_ fun h => ?_
  have := (right_iff.1 h).1 c (List.mem_of_getElem? hm)
  simp only [okCut, houses, Bool.and_eq_true, decide_eq_true_eq] at this
  simp only [Bool.or_eq_true, Bool.not_eq_true', Bool.and_eq_false_iff, decide_eq_false_iff_not, decide_eq_true_eq] at h4
  omega
theorem oc_bad2 {a : Air} {k : Nat} {c p : Pr} {A : Option Addr} (hm : a.cs[k]? = some c) (hx : 0 < k → a.cs[k - 1]? = some p ∧ KPr.ok p ∧ A.isSome = true) (h5 : (decide (0 < (k : Int)) && (decide (c.x < p.x) || (decide (p.x = c.x) && decide (c.y ≤ p.y)))) = true) : right a = false := by
  refine right_false_ fun h => ?_
  have hk := (List.getElem?_eq_some_iff.1 hm).1
  have h6 := right_iff.1 h
  have hcu : cutsOk a.cs = true := by unfold cutsOk; rw [Bool.and_eq_true, List.all_eq_true]; exact ⟨h6.1, h6.2.1⟩
  have := ((okAt_of hm hx hk).1 (cutsOk_iff.1 hcu k hk)).2
  rw [h5] at this; cases this
theorem right_all {a : Air} (h1 : ¬ (1000 : Int) < (a.ms.length : Int)) (h2 : ∀ m ∈ a.ms, rightM m = true) (h3 : ∀ i (h : i < a.cs.length), OkAt a.cs i h) : right a = true := by
  have hcu := cutsOk_iff.2 h3
  unfold cutsOk at hcu
  rw [Bool.and_eq_true, List.all_eq_true] at hcu
  exact right_iff.2 ⟨hcu.1, hcu.2, by omega, h2⟩
end Lnk
set_option maxHeartbeats 4000000 in
theorem rhouse_v (w : World) (x : Int) : Calls Try.prog 47 #[.int .i64 x] w (Fix (.bool (decide (0 ≤ x) && decide (x < 400))) w) := by
  refine calls_start Try.func47 rfl rfl ?_
  intro az Hz
  rw [Try.ntmps47] at Hz
  refine wp_seq_k fun K1 hK1 => ?_
  -- ref.go:7
  refine wp_region_lit ?_
  refine L (r_as Hz rfl) Hz rfl ?_
  clear Hz az; intro az Hz
  refine hK1 _ _ ?_
  refine wp_seq_k fun K2 hK2 => ?_
  -- ref.go:7
  refine wp_region_lit ?_
  refine L (r_mv Hz rfl) Hz rfl ?_
  clear Hz az; intro az Hz
  refine L (r_geI Hz rfl rfl) Hz rfl ?_
  clear Hz az; intro az Hz
  refine L (r_mv Hz rfl) Hz rfl ?_
  clear Hz az; intro az Hz
  refine LG Hz rfl rfl gd_t (fun hb => r_mv Hz rfl) rfl ?_
  clear Hz az; intro az Hz
  refine LG Hz rfl rfl gd_t (fun hb => r_ltI Hz (evg hb rfl) rfl) rfl ?_
  clear Hz az; intro az Hz
  refine L (r_and Hz rfl rfl rfl) Hz rfl ?_
  clear Hz az; intro az Hz
  refine L (r_as Hz rfl) Hz rfl ?_
  clear Hz az; intro az Hz
  refine hK2 _ _ ?_
  refine wp_ret ?_
  show bodyPost _ _ _ .ret _ _
  refine ret_of (vs := [.bool (((decide (0 ≤ x)) && (decide (x < 400))))]) Hz Try.results47 ⟨rfl, trivial⟩ ?_
  exact ⟨rfl, (Only.refl NoF w)⟩

set_option maxHeartbeats 4000000 in
theorem rmessage_v (w : World) (m : Msg) : Calls Try.prog 37 #[.agg #[.int .i64 m.a, .int .i64 m.b, strV m.t]] w (Fix (.bool (Lnk.rightM m)) w) := by
  refine calls_start Try.func37 rfl rfl ?_
  intro az Hz
  rw [Try.ntmps37] at Hz
  refine wp_seq_k fun K1 hK1 => ?_
  -- ref.go:10
  refine wp_region_lit ?_
  refine LBox Hz rfl rfl rfl ?_
  clear Hz az; intro g2 w3 hg6 hl7 o4 B5 az Hz
  refine L (r_as Hz rfl) Hz rfl ?_
  clear Hz az; intro az Hz
  refine hK1 _ _ ?_
  refine wp_seq_k fun K8 hK8 => ?_
  -- ref.go:11
  refine wp_region_lit ?_
  refine L (r_fa (m' := 0) Try.underlying27 rfl Try.sizeOf3 rfl Hz rfl rfl) Hz rfl ?_
  clear Hz az; intro az Hz
  refine L (r_ld Try.isAgg3 Hz rfl ((Blk.ca B5) 0 _ rfl)) Hz rfl ?_
  clear Hz az; intro az Hz
  refine LCV (v := .bool (((decide (0 ≤ m.a)) && (decide (m.a < 400))))) Hz rfl rfl Try.call47 (rhouse_v _ m.a) rfl fun w9 o10 => ?_
  clear Hz az; intro az Hz
  refine L (r_mv Hz rfl) Hz rfl ?_
  clear Hz az; intro az Hz
  refine LG Hz rfl rfl gd_t (fun hb => r_fa (m' := 1) Try.underlying27 rfl Try.sizeOf3 rfl Hz rfl rfl) rfl ?_
  clear Hz az; intro az Hz
  have B11 := (Blk.k B5 o10)
  refine LG Hz rfl rfl gd_t (fun hb => r_ld Try.isAgg3 Hz (evg hb rfl) ((Blk.ca B11) 1 _ rfl)) rfl ?_
  clear Hz az; intro az Hz
  refine LGV (v := .bool (((decide (0 ≤ m.b)) && (decide (m.b < 400))))) Hz rfl rfl gd_t rfl (fun hb => (evs_c (evg hb rfl) rfl)) Try.call47 (fun hb => rhouse_v _ m.b) rfl fun w12 o13 => ?_
  clear Hz az; intro az Hz
  refine L (r_and Hz rfl rfl rfl) Hz rfl ?_
  clear Hz az; intro az Hz
  refine L (r_mv Hz rfl) Hz rfl ?_
  clear Hz az; intro az Hz
  refine LG Hz rfl rfl gd_t (fun hb => r_fa (m' := 0) Try.underlying27 rfl Try.sizeOf3 rfl Hz rfl rfl) rfl ?_
  clear Hz az; intro az Hz
  have B14 := (Blk.k B11 o13)
  refine LG Hz rfl rfl gd_t (fun hb => r_ld Try.isAgg3 Hz (evg hb rfl) ((Blk.ca B14) 0 _ rfl)) rfl ?_
  clear Hz az; intro az Hz
  refine LG Hz rfl rfl gd_t (fun hb => r_fa (m' := 1) Try.underlying27 rfl Try.sizeOf3 rfl Hz rfl rfl) rfl ?_
  clear Hz az; intro az Hz
  refine LG Hz rfl rfl gd_t (fun hb => r_ld Try.isAgg3 Hz (evg hb rfl) ((Blk.ca B14) 1 _ rfl)) rfl ?_
  clear Hz az; intro az Hz
  refine LG Hz rfl rfl gd_t (fun hb => r_neI Hz (evg hb rfl) (evg hb rfl)) rfl ?_
  clear Hz az; intro az Hz
  refine L (r_and Hz rfl rfl rfl) Hz rfl ?_
  clear Hz az; intro az Hz
  refine L (r_mv Hz rfl) Hz rfl ?_
  clear Hz az; intro az Hz
  refine LG Hz rfl rfl gd_t (fun hb => r_fa (m' := 2) Try.underlying27 rfl Try.sizeOf9 rfl Hz rfl rfl) rfl ?_
  clear Hz az; intro az Hz
  refine LG Hz rfl rfl gd_t (fun hb => r_ld Try.isAgg9 Hz (evg hb rfl) ((Blk.ca B14) 2 _ rfl)) rfl ?_
  clear Hz az; intro az Hz
  refine LG Hz rfl rfl gd_t (fun hb => r_lenS Try.underlying9 Hz (evg hb rfl)) rfl ?_
  clear Hz az; intro az Hz
  refine LG Hz rfl rfl gd_t (fun hb => r_leI Hz (evg hb rfl) rfl) rfl ?_
  clear Hz az; intro az Hz
  refine L (r_and Hz rfl rfl rfl) Hz rfl ?_
  clear Hz az; intro az Hz
  refine L (r_as Hz rfl) Hz rfl ?_
  clear Hz az; intro az Hz
  refine hK8 _ _ ?_
  refine wp_ret ?_
  show bodyPost _ _ _ .ret _ _
  refine ret_of (vs := [.bool ((((((decide (0 ≤ m.a)) && (decide (m.a < 400))) && ((decide (0 ≤ m.b)) && (decide (m.b < 400)))) && (!(decide (m.a = m.b)))) && (decide (((List.length (m.t) : Nat) : Int) ≤ 20000))))]) Hz Try.results37 ⟨rfl, trivial⟩ ?_
  have O15 : Only NoF w w12 := (Only.trans' (Only.trans' o4 o10) o13)
  exact ⟨congrArg (fun b => Ending.returned (Value.bool b)) (Lnk.message_eq m), O15⟩

set_option maxHeartbeats 4000000 in
theorem ris_v_ {w : World} {a : Air} {A1 A2 : Option Addr} {c1 c2 : Nat} (f1 : Msgs w (.slice A1 a.ms.length c1) a.ms) (f2 : Prs w (.slice A2 a.cs.length c2) a.cs) (i : Int) : Calls Try.prog 40 #[.agg #[.slice A1 a.ms.length c1, .slice A2 a.cs.length c2], .int .i64 i] w (Fix (.bool (decide (0 ≤ i) && decide (i < (a.ms.length : Int)))) w) := by
  have hb1 := Nat.le_trans (SliceOf.cap_ f1) (SliceOf.lens f1).2
  have hb2 := Nat.le_trans (SliceOf.cap_ f2) (SliceOf.lens f2).2
  refine calls_start Try.func40 rfl rfl ?_
  intro az Hz
  rw [Try.ntmps40] at Hz
  refine wp_seq_k fun K1 hK1 => ?_
  -- ref.go:59
  refine wp_region_lit ?_
  refine LBox Hz rfl rfl rfl ?_
  clear Hz az; intro g2 w3 hg6 hl7 o4 B5 az Hz
  refine L (r_as Hz rfl) Hz rfl ?_
  clear Hz az; intro az Hz
  refine hK1 _ _ ?_
  refine wp_seq_k fun K8 hK8 => ?_
  -- ref.go:59
  refine wp_region_lit ?_
  refine L (r_mv Hz rfl) Hz rfl ?_
  clear Hz az; intro az Hz
  refine L (r_geI Hz rfl rfl) Hz rfl ?_
  clear Hz az; intro az Hz
  refine L (r_mv Hz rfl) Hz rfl ?_
  clear Hz az; intro az Hz
  refine LG Hz rfl rfl gd_t (fun hb => r_mv Hz rfl) rfl ?_
  clear Hz az; intro az Hz
  refine LG Hz rfl rfl gd_t (fun hb => r_fa (m' := 0) Try.underlying25 rfl Try.sizeOf22 rfl Hz rfl rfl) rfl ?_
  clear Hz az; intro az Hz
  refine LG Hz rfl rfl gd_t (fun hb => r_ld Try.isAgg22 Hz (evg hb rfl) ((Blk.ca B5) 0 _ rfl)) rfl ?_
  clear Hz az; intro az Hz
  refine LG Hz rfl rfl gd_t (fun hb => r_lenL Try.underlying22 Hz (evg hb rfl)) rfl ?_
  clear Hz az; intro az Hz
  refine LG Hz rfl rfl gd_t (fun hb => r_ltI Hz (evg hb rfl) (evg hb rfl)) rfl ?_
  clear Hz az; intro az Hz
  refine L (r_and Hz rfl rfl rfl) Hz rfl ?_
  clear Hz az; intro az Hz
  refine L (r_as Hz rfl) Hz rfl ?_
  clear Hz az; intro az Hz
  refine hK8 _ _ ?_
  refine wp_ret ?_
  show bodyPost _ _ _ .ret _ _
  refine ret_of (vs := [.bool (((decide (0 ≤ i)) && (decide (i < ((a.ms.length : Nat) : Int)))))]) Hz Try.results40 ⟨rfl, trivial⟩ ?_
  exact ⟨rfl, o4⟩

theorem ris_v {w : World} {v : Value} {a : Air} (h : AirV w v a) (i : Int) : Calls Try.prog 40 #[v, .int .i64 i] w (Fix (.bool (decide (0 ≤ i) && decide (i < (a.ms.length : Int)))) w) := by
  obtain ⟨v1, v2, rfl, f1, f2⟩ := h
  obtain ⟨A1, c1, rfl, _⟩ := SliceOf.shape f1
  obtain ⟨A2, c2, rfl, _⟩ := SliceOf.shape f2
  exact ris_v_ f1 f2 i

set_option maxHeartbeats 4000000 in
theorem risCut_v_ {w : World} {a : Air} {A1 A2 : Option Addr} {c1 c2 : Nat} (f1 : Msgs w (.slice A1 a.ms.length c1) a.ms) (f2 : Prs w (.slice A2 a.cs.length c2) a.cs) (x y : Int) : Calls Try.prog 48 #[.agg #[.slice A1 a.ms.length c1, .slice A2 a.cs.length c2], .int .i64 x, .int .i64 y] w (Fix (.bool (Lnk.isCut a x y)) w) := by
  have hb1 := Nat.le_trans (SliceOf.cap_ f1) (SliceOf.lens f1).2
  have hb2 := Nat.le_trans (SliceOf.cap_ f2) (SliceOf.lens f2).2
  refine calls_start Try.func48 rfl rfl ?_
  intro az Hz
  rw [Try.ntmps48] at Hz
  refine wp_seq_k fun K1 hK1 => ?_
  -- ref.go:37
  refine wp_region_lit ?_
  refine LBox Hz rfl rfl rfl ?_
  clear Hz az; intro g2 w3 hg6 hl7 o4 B5 az Hz
  refine L (r_as Hz rfl) Hz rfl ?_
  clear Hz az; intro az Hz
  refine hK1 _ _ ?_
  refine wp_seq_k fun K8 hK8 => ?_
  refine wp_seq_k fun K9 hK9 => ?_
  -- ref.go:38
  refine wp_region_lit ?_
  refine L (r_as Hz rfl) Hz rfl ?_
  clear Hz az; intro az Hz
  refine hK9 _ _ ?_
  refine wp_block ?_
  refine wp_loop_m (fun mz az W => ∃ k : Nat, mz = a.cs.length - k ∧ Fr 37 [(1, .int .i64 (x)), (2, .int .i64 (y)), (3, .pointer (some ((⟨g2, 0, none⟩ : Addr)))), (7, .int .i64 ((k : Int)))] az ∧ (k ≤ a.cs.length) ∧ (Lnk.pair x y ∉ a.cs.take k) ∧ Only NoF w3 W) ?_ ?_
  · -- start
    exact ⟨_, 0, rfl, Hz.cut ⟨rfl, rfl, rfl, rfl, trivial⟩, Nat.zero_le _, (by simp), (Only.refl NoF w3)⟩
  clear Hz az
  rintro mz az w10 ⟨k, hm12, Hz, hk, hno, o11⟩
  refine wp_seq_k fun K13 hK13 => ?_
  refine wp_seq_k fun K14 hK14 => ?_
  -- ref.go:38
  refine wp_region_lit ?_
  refine L (r_mv Hz rfl) Hz rfl ?_
  clear Hz az; intro az Hz
  refine L (r_fa (m' := 1) Try.underlying25 rfl Try.sizeOf23 rfl Hz rfl rfl) Hz rfl ?_
  clear Hz az; intro az Hz
  have B15 := (Blk.k B5 o11)
  refine L (r_ld Try.isAgg23 Hz rfl ((Blk.ca B15) 1 _ rfl)) Hz rfl ?_
  clear Hz az; intro az Hz
  refine L (r_lenL Try.underlying23 Hz rfl) Hz rfl ?_
  clear Hz az; intro az Hz
  refine L (r_ltI Hz rfl rfl) Hz rfl ?_
  clear Hz az; intro az Hz
  refine hK14 _ _ ?_
  refine br Hz rfl (fun hc16 => ?_) (fun hc16 => ?_)
  · -- if0
    have p17 := of_decide_eq_true hc16
    refine wp_skip ?_
    refine hK13 _ _ ?_
    refine wp_seq_k fun K18 hK18 => ?_
    refine wp_block ?_
    refine wp_seq_k fun K19 hK19 => ?_
    -- ref.go:39
    refine wp_region_lit ?_
    refine L (r_fa (m' := 1) Try.underlying25 rfl Try.sizeOf23 rfl Hz rfl rfl) Hz rfl ?_
    clear Hz az; intro az Hz
    refine L (r_ld Try.isAgg23 Hz rfl ((Blk.ca B15) 1 _ rfl)) Hz rfl ?_
    clear Hz az; intro az Hz
    refine L (r_mv Hz rfl) Hz rfl ?_
    clear Hz az; intro az Hz
    have O20 : Only NoF w w10 := (Only.trans' o4 o11)
    have h21 := (SliceOf.kp f2 O20 (fun _ _ h => h) (fun _ _ _ _ h => h))
    have hk22 : k < (a.cs).length := by omega
    obtain ⟨m23, hm24, ok25, hA26⟩ := Row.el KPr h21 hk22
    have E27 : ∀ W, Only NoF w10 W → CA W (eA A2 2 (k)) [.int .i64 (m23.x), .int .i64 (m23.y)] := Row.ce KPr h21 hm24 rfl
    refine L (r_ia (k := k) (size := 2) Try.underlying23 Try.sizeOf60 Hz rfl rfl rfl hk22 hA26) Hz rfl ?_
    clear Hz az; intro az Hz
    refine L (r_fa (m' := 0) Try.underlying60 rfl Try.sizeOf3 rfl Hz rfl rfl) Hz rfl ?_
    clear Hz az; intro az Hz
    refine L (r_ld Try.isAgg3 Hz rfl ((E27 _ (Only.refl NoF w10)) 0 _ rfl)) Hz rfl ?_
    clear Hz az; intro az Hz
    refine L (r_mv Hz rfl) Hz rfl ?_
    clear Hz az; intro az Hz
    refine L (r_mv Hz rfl) Hz rfl ?_
    clear Hz az; intro az Hz
    refine L (r_min Hz rfl rfl) Hz rfl ?_
    clear Hz az; intro az Hz
    refine L (r_eqI Hz rfl rfl) Hz rfl ?_
    clear Hz az; intro az Hz
    refine L (r_mv Hz rfl) Hz rfl ?_
    clear Hz az; intro az Hz
    refine LG Hz rfl rfl gd_t (fun hb => r_fa (m' := 1) Try.underlying25 rfl Try.sizeOf23 rfl Hz rfl rfl) rfl ?_
    clear Hz az; intro az Hz
    refine LG Hz rfl rfl gd_t (fun hb => r_ld Try.isAgg23 Hz (evg hb rfl) ((Blk.ca B15) 1 _ rfl)) rfl ?_
    clear Hz az; intro az Hz
    refine LG Hz rfl rfl gd_t (fun hb => r_mv Hz rfl) rfl ?_
    clear Hz az; intro az Hz
    refine LG Hz rfl rfl gd_t (fun hb => r_ia (k := k) (size := 2) Try.underlying23 Try.sizeOf60 Hz (evg hb rfl) (evg hb rfl) rfl hk22 hA26) rfl ?_
    clear Hz az; intro az Hz
    refine LG Hz rfl rfl gd_t (fun hb => r_fa (m' := 1) Try.underlying60 rfl Try.sizeOf3 rfl Hz (evg hb rfl) rfl) rfl ?_
    clear Hz az; intro az Hz
    refine LG Hz rfl rfl gd_t (fun hb => r_ld Try.isAgg3 Hz (evg hb rfl) ((E27 _ (Only.refl NoF w10)) 1 _ rfl)) rfl ?_
    clear Hz az; intro az Hz
    refine LG Hz rfl rfl gd_t (fun hb => r_mv Hz rfl) rfl ?_
    clear Hz az; intro az Hz
    refine LG Hz rfl rfl gd_t (fun hb => r_mv Hz rfl) rfl ?_
    clear Hz az; intro az Hz
    refine LG Hz rfl rfl gd_t (fun hb => r_max Hz (evg hb rfl) (evg hb rfl)) rfl ?_
    clear Hz az; intro az Hz
    refine LG Hz rfl rfl gd_t (fun hb => r_eqI Hz (evg hb rfl) (evg hb rfl)) rfl ?_
    clear Hz az; intro az Hz
    refine L (r_and Hz rfl rfl rfl) Hz rfl ?_
    clear Hz az; intro az Hz
    refine hK19 _ _ ?_
    refine br Hz rfl (fun hc28 => ?_) (fun hc28 => ?_)
    · -- if1
      have p29 := of_decide_eq_true (and_t hc28).1
      have p30 := of_decide_eq_true (and_t hc28).2
      refine wp_seq_k fun K31 hK31 => ?_
      -- ref.go:40
      refine wp_region_lit ?_
      refine L (r_as Hz rfl) Hz rfl ?_
      clear Hz az; intro az Hz
      refine hK31 _ _ ?_
      refine wp_ret ?_
      show bodyPost _ _ _ .ret _ _
      refine ret_of (vs := [.bool (true)]) Hz Try.results48 ⟨rfl, trivial⟩ ?_
      exact ⟨congrArg (fun b => Ending.returned (Value.bool b)) (Lnk.cut_found hm24 hc28).symm, O20⟩
    · -- else1
      have d32 := hc28
      refine wp_skip ?_
      refine hK18 _ _ ?_
      -- ref.go:38
      refine wp_region_lit ?_
      refine L (r_mv Hz rfl) Hz rfl ?_
      clear Hz az; intro az Hz
      have i33 : I64 ((k : Int) + 1) := by unfold I64; omega
      refine L (r_addI (r := ((k : Int) + 1)) Hz rfl rfl rfl i33) Hz rfl ?_
      clear Hz az; intro az Hz
      refine L (r_as Hz rfl) Hz rfl ?_
      clear Hz az; intro az Hz
      exact ⟨_, (by omega), k + 1, rfl, Hz.cut ⟨rfl, rfl, rfl, rfl, trivial⟩, (by omega), (Lnk.nocut_step hm24 hno hc28), o11⟩
  · -- else0
    have p34 := of_decide_eq_false hc16
    refine wp_exit ?_
    refine th_exit ?_
    refine th_exit ?_
    refine ib_hit ?_
    refine hK8 _ _ ?_
    refine wp_seq_k fun K35 hK35 => ?_
    -- ref.go:43
    refine wp_region_lit ?_
    refine L (r_as Hz rfl) Hz rfl ?_
    clear Hz az; intro az Hz
    refine hK35 _ _ ?_
    refine wp_ret ?_
    show bodyPost _ _ _ .ret _ _
    refine ret_of (vs := [.bool (false)]) Hz Try.results48 ⟨rfl, trivial⟩ ?_
    rw [List.take_of_length_le (by omega)] at hno
    have O36 : Only NoF w w10 := (Only.trans' o4 o11)
    exact ⟨congrArg (fun b => Ending.returned (Value.bool b)) (decide_eq_false hno).symm, O36⟩

theorem risCut_v {w : World} {v : Value} {a : Air} (h : AirV w v a) (x y : Int) : Calls Try.prog 48 #[v, .int .i64 x, .int .i64 y] w (Fix (.bool (Lnk.isCut a x y)) w) := by
  obtain ⟨v1, v2, rfl, f1, f2⟩ := h
  obtain ⟨A1, c1, rfl, _⟩ := SliceOf.shape f1
  obtain ⟨A2, c2, rfl, _⟩ := SliceOf.shape f2
  exact risCut_v_ f1 f2 x y

set_option maxHeartbeats 4000000 in
theorem rRight_v_ {w : World} {a : Air} {A1 A2 : Option Addr} {c1 c2 : Nat} (f1 : Msgs w (.slice A1 a.ms.length c1) a.ms) (f2 : Prs w (.slice A2 a.cs.length c2) a.cs) : Calls Try.prog 29 #[.agg #[.slice A1 a.ms.length c1, .slice A2 a.cs.length c2]] w (Fix (.bool (Lnk.right a)) w) := by
  have hb1 := Nat.le_trans (SliceOf.cap_ f1) (SliceOf.lens f1).2
  have hb2 := Nat.le_trans (SliceOf.cap_ f2) (SliceOf.lens f2).2
  refine calls_start Try.func29 rfl rfl ?_
  intro az Hz
  rw [Try.ntmps29] at Hz
  refine wp_seq_k fun K1 hK1 => ?_
  -- ref.go:15
  refine wp_region_lit ?_
  refine LBox Hz rfl rfl rfl ?_
  clear Hz az; intro g2 w3 hg6 hl7 o4 B5 az Hz
  refine L (r_as Hz rfl) Hz rfl ?_
  clear Hz az; intro az Hz
  refine hK1 _ _ ?_
  refine wp_seq_k fun K8 hK8 => ?_
  refine wp_seq_k fun K9 hK9 => ?_
  -- ref.go:16
  refine wp_region_lit ?_
  refine L (r_fa (m' := 0) Try.underlying25 rfl Try.sizeOf22 rfl Hz rfl rfl) Hz rfl ?_
  clear Hz az; intro az Hz
  refine L (r_ld Try.isAgg22 Hz rfl ((Blk.ca B5) 0 _ rfl)) Hz rfl ?_
  clear Hz az; intro az Hz
  refine L (r_lenL Try.underlying22 Hz rfl) Hz rfl ?_
  clear Hz az; intro az Hz
  refine L (r_gtI Hz rfl rfl) Hz rfl ?_
  clear Hz az; intro az Hz
  refine hK9 _ _ ?_
  refine br Hz rfl (fun hc10 => ?_) (fun hc10 => ?_)
  · -- if0
    have p11 := of_decide_eq_true hc10
    refine wp_seq_k fun K12 hK12 => ?_
    -- ref.go:17
    refine wp_region_lit ?_
    refine L (r_as Hz rfl) Hz rfl ?_
    clear Hz az; intro az Hz
    refine hK12 _ _ ?_
    refine wp_ret ?_
    show bodyPost _ _ _ .ret _ _
    refine ret_of (vs := [.bool (false)]) Hz Try.results29 ⟨rfl, trivial⟩ ?_
    exact ⟨congrArg (fun b => Ending.returned (Value.bool b)) (Lnk.right_long (of_decide_eq_true hc10)).symm, o4⟩
  · -- else0
    have p13 := of_decide_eq_false hc10
    refine wp_skip ?_
    refine hK8 _ _ ?_
    refine wp_seq_k fun K14 hK14 => ?_
    refine wp_seq_k fun K15 hK15 => ?_
    -- ref.go:19
    refine wp_region_lit ?_
    refine L (r_as Hz rfl) Hz rfl ?_
    clear Hz az; intro az Hz
    refine hK15 _ _ ?_
    refine wp_block ?_
    refine wp_loop_m (fun mz az W => ∃ k : Nat, mz = a.ms.length - k ∧ Fr 91 [(1, .pointer (some ((⟨g2, 0, none⟩ : Addr)))), (3, .int .i64 ((k : Int)))] az ∧ (k ≤ a.ms.length) ∧ (∀ m ∈ a.ms.take k, Lnk.rightM m = true) ∧ Only NoF w3 W) ?_ ?_
    · -- start
      exact ⟨_, 0, rfl, Hz.cut ⟨rfl, rfl, trivial⟩, Nat.zero_le _, (fun m hm => by cases hm), (Only.refl NoF w3)⟩
    clear Hz az
    rintro mz az w16 ⟨k, hm18, Hz, hk, hno, o17⟩
    refine wp_seq_k fun K19 hK19 => ?_
    refine wp_seq_k fun K20 hK20 => ?_
    -- ref.go:19
    refine wp_region_lit ?_
    refine L (r_mv Hz rfl) Hz rfl ?_
    clear Hz az; intro az Hz
    refine L (r_fa (m' := 0) Try.underlying25 rfl Try.sizeOf22 rfl Hz rfl rfl) Hz rfl ?_
    clear Hz az; intro az Hz
    have B21 := (Blk.k B5 o17)
    refine L (r_ld Try.isAgg22 Hz rfl ((Blk.ca B21) 0 _ rfl)) Hz rfl ?_
    clear Hz az; intro az Hz
    refine L (r_lenL Try.underlying22 Hz rfl) Hz rfl ?_
    clear Hz az; intro az Hz
    refine L (r_ltI Hz rfl rfl) Hz rfl ?_
    clear Hz az; intro az Hz
    refine hK20 _ _ ?_
    refine br Hz rfl (fun hc22 => ?_) (fun hc22 => ?_)
    · -- if1
      have p23 := of_decide_eq_true hc22
      refine wp_skip ?_
      refine hK19 _ _ ?_
      refine wp_seq_k fun K24 hK24 => ?_
      refine wp_block ?_
      refine wp_seq_k fun K25 hK25 => ?_
      -- ref.go:20
      refine wp_region_lit ?_
      refine L (r_fa (m' := 0) Try.underlying25 rfl Try.sizeOf22 rfl Hz rfl rfl) Hz rfl ?_
      clear Hz az; intro az Hz
      refine L (r_ld Try.isAgg22 Hz rfl ((Blk.ca B21) 0 _ rfl)) Hz rfl ?_
      clear Hz az; intro az Hz
      refine L (r_mv Hz rfl) Hz rfl ?_
      clear Hz az; intro az Hz
      have O26 : Only NoF w w16 := (Only.trans' o4 o17)
      have h27 := (SliceOf.kp f1 O26 (fun _ _ h => h) (fun _ _ _ _ h => h))
      have hk28 : k < (a.ms).length := by omega
      obtain ⟨m29, hm30, ok31, hA32⟩ := Row.el KMsg h27 hk28
      have E33 : ∀ W, Only NoF w16 W → CA W (eA A1 3 (k)) [.int .i64 (m29.a), .int .i64 (m29.b), strV (m29.t)] := Row.ce KMsg h27 hm30 rfl
      refine L (r_ia (k := k) (size := 3) Try.underlying22 Try.sizeOf27 Hz rfl rfl rfl hk28 hA32) Hz rfl ?_
      clear Hz az; intro az Hz
      refine L (r_ldA Try.isAgg27 Try.sizeOf27 Hz rfl (E33 _ (Only.refl NoF w16)) rfl) Hz rfl ?_
      clear Hz az; intro az Hz
      refine LCV (v := .bool (Lnk.rightM m29)) Hz rfl rfl Try.call37 (rmessage_v _ m29) rfl fun w34 o35 => ?_
      clear Hz az; intro az Hz
      refine L (r_not Hz rfl) Hz rfl ?_
      clear Hz az; intro az Hz
      refine hK25 _ _ ?_
      refine br Hz rfl (fun hc36 => ?_) (fun hc36 => ?_)
      · -- if2
        have q37 : Lnk.rightM m29 = false := (nt_t hc36)
        refine wp_seq_k fun K38 hK38 => ?_
        -- ref.go:21
        refine wp_region_lit ?_
        refine L (r_as Hz rfl) Hz rfl ?_
        clear Hz az; intro az Hz
        refine hK38 _ _ ?_
        refine wp_ret ?_
        show bodyPost _ _ _ .ret _ _
        refine ret_of (vs := [.bool (false)]) Hz Try.results29 ⟨rfl, trivial⟩ ?_
        have O39 : Only NoF w w34 := (Only.trans' O26 o35)
        exact ⟨congrArg (fun b => Ending.returned (Value.bool b)) (Lnk.rm_bad hm30 (nt_t hc36)).symm, O39⟩
      · -- else2
        have q40 : Lnk.rightM m29 = true := (nt_f hc36)
        refine wp_skip ?_
        refine hK24 _ _ ?_
        -- ref.go:19
        refine wp_region_lit ?_
        refine L (r_mv Hz rfl) Hz rfl ?_
        clear Hz az; intro az Hz
        have i41 : I64 ((k : Int) + 1) := by unfold I64; omega
        refine L (r_addI (r := ((k : Int) + 1)) Hz rfl rfl rfl i41) Hz rfl ?_
        clear Hz az; intro az Hz
        refine L (r_as Hz rfl) Hz rfl ?_
        clear Hz az; intro az Hz
        have O42 : Only NoF w3 w34 := (Only.trans' o17 o35)
        exact ⟨_, (by omega), k + 1, rfl, Hz.cut ⟨rfl, rfl, trivial⟩, (by omega), (Lnk.rm_step hm30 hno (nt_f hc36)), O42⟩
    · -- else1
      have p43 := of_decide_eq_false hc22
      refine wp_exit ?_
      refine th_exit ?_
      refine th_exit ?_
      refine ib_hit ?_
      refine hK14 _ _ ?_
      refine wp_seq_k fun K44 hK44 => ?_
      refine wp_seq_k fun K45 hK45 => ?_
      -- ref.go:24
      refine wp_region_lit ?_
      refine L (r_as Hz rfl) Hz rfl ?_
      clear Hz az; intro az Hz
      refine hK45 _ _ ?_
      refine wp_block ?_
      refine wp_loop_m (fun mz az W => ∃ k : Nat, mz = a.cs.length - k ∧ Fr 91 [(1, .pointer (some ((⟨g2, 0, none⟩ : Addr)))), (4, .int .i64 ((k : Int)))] az ∧ (k ≤ a.cs.length) ∧ (∀ i (h : i < a.cs.length), i < k → Lnk.OkAt a.cs i h) ∧ Only NoF w16 W) ?_ ?_
      · -- start
        exact ⟨_, 0, rfl, Hz.cut ⟨rfl, rfl, trivial⟩, Nat.zero_le _, (fun i h hi => absurd hi (Nat.not_lt_zero _)), (Only.refl NoF w16)⟩
      clear Hz az
      rintro mz az w46 ⟨k, hm48, Hz, hq, hok, o47⟩
      refine wp_seq_k fun K49 hK49 => ?_
      refine wp_seq_k fun K50 hK50 => ?_
      -- ref.go:24
      refine wp_region_lit ?_
      refine L (r_mv Hz rfl) Hz rfl ?_
      clear Hz az; intro az Hz
      refine L (r_fa (m' := 1) Try.underlying25 rfl Try.sizeOf23 rfl Hz rfl rfl) Hz rfl ?_
      clear Hz az; intro az Hz
      have B51 := (Blk.k B21 o47)
      refine L (r_ld Try.isAgg23 Hz rfl ((Blk.ca B51) 1 _ rfl)) Hz rfl ?_
      clear Hz az; intro az Hz
      refine L (r_lenL Try.underlying23 Hz rfl) Hz rfl ?_
      clear Hz az; intro az Hz
      refine L (r_ltI Hz rfl rfl) Hz rfl ?_
      clear Hz az; intro az Hz
      refine hK50 _ _ ?_
      refine br Hz rfl (fun hc52 => ?_) (fun hc52 => ?_)
      · -- if3
        have p53 := of_decide_eq_true hc52
        refine wp_skip ?_
        refine hK49 _ _ ?_
        refine wp_seq_k fun K54 hK54 => ?_
        refine wp_block ?_
        refine wp_seq_k fun K55 hK55 => ?_
        -- ref.go:25
        refine wp_region_lit ?_
        refine L (r_fa (m' := 1) Try.underlying25 rfl Try.sizeOf23 rfl Hz rfl rfl) Hz rfl ?_
        clear Hz az; intro az Hz
        refine L (r_ld Try.isAgg23 Hz rfl ((Blk.ca B51) 1 _ rfl)) Hz rfl ?_
        clear Hz az; intro az Hz
        refine L (r_mv Hz rfl) Hz rfl ?_
        clear Hz az; intro az Hz
        have O56 : Only NoF w w46 := (Only.trans' (Only.trans' o4 o17) o47)
        have h57 := (SliceOf.kp f2 O56 (fun _ _ h => h) (fun _ _ _ _ h => h))
        have hk58 : k < (a.cs).length := by omega
        obtain ⟨m59, hm60, ok61, hA62⟩ := Row.el KPr h57 hk58
        have E63 : ∀ W, Only NoF w46 W → CA W (eA A2 2 (k)) [.int .i64 (m59.x), .int .i64 (m59.y)] := Row.ce KPr h57 hm60 rfl
        refine L (r_ia (k := k) (size := 2) Try.underlying23 Try.sizeOf60 Hz rfl rfl rfl hk58 hA62) Hz rfl ?_
        clear Hz az; intro az Hz
        refine L (r_ldA Try.isAgg60 Try.sizeOf60 Hz rfl (E63 _ (Only.refl NoF w46)) rfl) Hz rfl ?_
        clear Hz az; intro az Hz
        refine LAl (v := .agg #[.int .i64 (0), .int .i64 (0)]) zeroPr Hz rfl rfl ?_
        clear Hz az; intro g64 w65 hg68 hl69 o66 B67 az Hz
        refine LSt (cs' := [.int .i64 (m59.x), .int .i64 (m59.y)]) Try.sizeOf60 Hz rfl rfl rfl rfl rfl ⟨rfl, rfl, trivial⟩ B67 rfl rfl fun w70 s71 B72 => ?_
        refine hK55 _ _ ?_
        refine wp_seq_k fun K73 hK73 => ?_
        refine wp_seq_k fun K74 hK74 => ?_
        -- ref.go:26
        refine wp_region_lit ?_
        refine L (r_fa (m' := 0) Try.underlying60 rfl Try.sizeOf3 rfl Hz rfl rfl) Hz rfl ?_
        clear Hz az; intro az Hz
        refine L (r_ld Try.isAgg3 Hz rfl ((Blk.ca B72) 0 _ rfl)) Hz rfl ?_
        clear Hz az; intro az Hz
        refine LCV (v := .bool (((decide (0 ≤ m59.x)) && (decide (m59.x < 400))))) Hz rfl rfl Try.call47 (rhouse_v _ m59.x) rfl fun w75 o76 => ?_
        clear Hz az; intro az Hz
        refine L (r_not Hz rfl) Hz rfl ?_
        clear Hz az; intro az Hz
        refine L (r_mv Hz rfl) Hz rfl ?_
        clear Hz az; intro az Hz
        refine LG Hz rfl rfl gd_f (fun hb => r_fa (m' := 1) Try.underlying60 rfl Try.sizeOf3 rfl Hz rfl rfl) rfl ?_
        clear Hz az; intro az Hz
        have B77 := (Blk.k B72 o76)
        refine LG Hz rfl rfl gd_f (fun hb => r_ld Try.isAgg3 Hz (evg hb rfl) ((Blk.ca B77) 1 _ rfl)) rfl ?_
        clear Hz az; intro az Hz
        refine LGV (v := .bool (((decide (0 ≤ m59.y)) && (decide (m59.y < 400))))) Hz rfl rfl gd_f rfl (fun hb => (evs_c (evg hb rfl) rfl)) Try.call47 (fun hb => rhouse_v _ m59.y) rfl fun w78 o79 => ?_
        clear Hz az; intro az Hz
        refine LG Hz rfl rfl gd_f (fun hb => r_not Hz (evg hb rfl)) rfl ?_
        clear Hz az; intro az Hz
        refine L (r_or Hz rfl rfl rfl) Hz rfl ?_
        clear Hz az; intro az Hz
        refine L (r_mv Hz rfl) Hz rfl ?_
        clear Hz az; intro az Hz
        refine LG Hz rfl rfl gd_f (fun hb => r_fa (m' := 0) Try.underlying60 rfl Try.sizeOf3 rfl Hz rfl rfl) rfl ?_
        clear Hz az; intro az Hz
        have B80 := (Blk.k B77 o79)
        refine LG Hz rfl rfl gd_f (fun hb => r_ld Try.isAgg3 Hz (evg hb rfl) ((Blk.ca B80) 0 _ rfl)) rfl ?_
        clear Hz az; intro az Hz
        refine LG Hz rfl rfl gd_f (fun hb => r_fa (m' := 1) Try.underlying60 rfl Try.sizeOf3 rfl Hz rfl rfl) rfl ?_
        clear Hz az; intro az Hz
        refine LG Hz rfl rfl gd_f (fun hb => r_ld Try.isAgg3 Hz (evg hb rfl) ((Blk.ca B80) 1 _ rfl)) rfl ?_
        clear Hz az; intro az Hz
        refine LG Hz rfl rfl gd_f (fun hb => r_geI Hz (evg hb rfl) (evg hb rfl)) rfl ?_
        clear Hz az; intro az Hz
        refine L (r_or Hz rfl rfl rfl) Hz rfl ?_
        clear Hz az; intro az Hz
        refine hK74 _ _ ?_
        refine br Hz rfl (fun hc81 => ?_) (fun hc81 => ?_)
        · -- if4
          have d82 := hc81
          refine wp_seq_k fun K83 hK83 => ?_
          -- ref.go:27
          refine wp_region_lit ?_
          refine L (r_as Hz rfl) Hz rfl ?_
          clear Hz az; intro az Hz
          refine hK83 _ _ ?_
          refine wp_ret ?_
          show bodyPost _ _ _ .ret _ _
          refine ret_of (vs := [.bool (false)]) Hz Try.results29 ⟨rfl, trivial⟩ ?_
          have O84 : Only NoF w w78 := (Only.trans' (Only.trans' (o_sg (Only.trans' O56 o66) s71 (size_only O56) (oneF_ge hg68)) o76) o79)
          exact ⟨congrArg (fun b => Ending.returned (Value.bool b)) (Lnk.oc_bad hm60 hc81).symm, O84⟩
        · -- else4
          have p85 := of_decide_eq_true (and_t (nt_f (or_f (or_f hc81).1).1)).1
          have p86 := of_decide_eq_true (and_t (nt_f (or_f (or_f hc81).1).1)).2
          have p87 := of_decide_eq_true (and_t (nt_f (or_f (or_f hc81).1).2)).1
          have p88 := of_decide_eq_true (and_t (nt_f (or_f (or_f hc81).1).2)).2
          have p89 := of_decide_eq_false (or_f hc81).2
          refine wp_skip ?_
          refine hK73 _ _ ?_
          refine wp_seq_k fun K90 hK90 => ?_
          -- ref.go:29
          refine reg_q [(true, 0), (true, 1), (true, 2), (true, 3), (true, 4), (true, 5), (true, 6), (true, 7), (true, 8), (true, 9), (true, 10), (true, 11), (true, 12), (true, 13), (true, 14), (true, 15), (true, 16), (true, 17), (true, 18), (true, 19), (true, 20), (true, 21), (true, 22), (true, 23), (true, 24), (true, 25), (true, 26), (true, 27), (true, 28), (true, 29), (true, 30), (true, 31), (true, 32), (true, 33), (true, 34), (true, 35), (true, 36), (true, 37)] (by kernel_rfl) (by kernel_rfl) (fun _ _ _ _ _ h => h) fun w91 o92 => ?_
          refine M (r_mv Hz rfl) Hz rfl rfl ?_
          clear Hz az; intro az Hz
          refine M (r_gtI Hz rfl rfl) Hz rfl rfl ?_
          clear Hz az; intro az Hz
          refine M (r_mv Hz rfl) Hz rfl rfl ?_
          clear Hz az; intro az Hz
          refine MG Hz rfl rfl gd_t (fun hb => r_fa (m' := 1) Try.underlying25 rfl Try.sizeOf23 rfl Hz rfl rfl) rfl rfl ?_
          clear Hz az; intro az Hz
          have O94 : Only NoF w3 w46 := (Only.trans' o17 o47)
          have ne93 : g2 ≠ g64 := (ne_of hl7 (Nat.le_trans (size_only O94) hg68))
          have B95 := (Blk.k (Blk.k (Blk.k (Blk.st (Blk.k B51 o66) s71 ne93) o76) o79) o92)
          refine MG Hz rfl rfl gd_t (fun hb => r_ld Try.isAgg23 Hz (evg hb rfl) ((Blk.ca B95) 1 _ rfl)) rfl rfl ?_
          clear Hz az; intro az Hz
          refine MG Hz rfl rfl gd_t (fun hb => r_mv Hz rfl) rfl rfl ?_
          clear Hz az; intro az Hz
          have i96 : I64 ((k : Int) - 1) := by unfold I64; omega
          refine MG Hz rfl rfl gd_t (fun hb => r_subI (r := ((k : Int) - 1)) Hz (evg hb rfl) rfl rfl i96) rfl rfl ?_
          clear Hz az; intro az Hz
          have O97 : Only NoF w w91 := (Only.trans' (Only.trans' (Only.trans' (o_sg (Only.trans' O56 o66) s71 (size_only O56) (oneF_ge hg68)) o76) o79) o92)
          have h98 := (SliceOf.kp f2 O97 (fun _ _ h => h) (fun _ _ _ _ h => h))
          obtain ⟨p99, hx100⟩ := Row.el1 KPr (k := k) h98 hq (⟨0, 0⟩ : Pr)
          have E101 : ∀ (hp : 0 < k) W, Only NoF w91 W → CA W (eA A2 2 (k - 1)) [.int .i64 (p99.x), .int .i64 (p99.y)] := fun hp => Row.ce KPr h98 (hx100 hp).1 rfl
          refine MG Hz rfl rfl gd_t (fun hb => r_ia (k := k - 1) (size := 2) Try.underlying23 Try.sizeOf60 Hz (evg hb rfl) (evg hb rfl) (by have h0 := (Lnk.pos_of hb); omega) (by have h0 := (Lnk.pos_of hb); omega) (hx100 (Lnk.pos_of hb)).2.2) rfl rfl ?_
          clear Hz az; intro az Hz
          refine MG Hz rfl rfl gd_t (fun hb => r_fa (m' := 0) Try.underlying60 rfl Try.sizeOf3 rfl Hz (evg hb rfl) rfl) rfl rfl ?_
          clear Hz az; intro az Hz
          refine MG Hz rfl rfl gd_t (fun hb => r_ld Try.isAgg3 Hz (evg hb rfl) (((E101 (Lnk.pos_of hb)) _ (Only.refl NoF w91)) 0 _ rfl)) rfl rfl ?_
          clear Hz az; intro az Hz
          refine MG Hz rfl rfl gd_t (fun hb => r_fa (m' := 0) Try.underlying60 rfl Try.sizeOf3 rfl Hz rfl rfl) rfl rfl ?_
          clear Hz az; intro az Hz
          have B102 := (Blk.k B80 o92)
          refine MG Hz rfl rfl gd_t (fun hb => r_ld Try.isAgg3 Hz (evg hb rfl) ((Blk.ca B102) 0 _ rfl)) rfl rfl ?_
          clear Hz az; intro az Hz
          refine MG Hz rfl rfl gd_t (fun hb => r_gtI Hz (evg hb rfl) (evg hb rfl)) rfl rfl ?_
          clear Hz az; intro az Hz
          refine MG Hz rfl rfl gd_t (fun hb => r_mv Hz (evg hb rfl)) rfl rfl ?_
          clear Hz az; intro az Hz
          refine MG Hz rfl rfl gd_gf (fun hb => r_fa (m' := 1) Try.underlying25 rfl Try.sizeOf23 rfl Hz rfl rfl) rfl rfl ?_
          clear Hz az; intro az Hz
          refine MG Hz rfl rfl gd_gf (fun hb => r_ld Try.isAgg23 Hz (evg hb rfl) ((Blk.ca B95) 1 _ rfl)) rfl rfl ?_
          clear Hz az; intro az Hz
          refine MG Hz rfl rfl gd_gf (fun hb => r_mv Hz rfl) rfl rfl ?_
          clear Hz az; intro az Hz
          have i103 : I64 ((k : Int) - 1) := by unfold I64; omega
          refine MG Hz rfl rfl gd_gf (fun hb => r_subI (r := ((k : Int) - 1)) Hz (evg hb rfl) rfl rfl i103) rfl rfl ?_
          clear Hz az; intro az Hz
          refine MG Hz rfl rfl gd_gf (fun hb => r_ia (k := k - 1) (size := 2) Try.underlying23 Try.sizeOf60 Hz (evg hb rfl) (evg hb rfl) (by have h0 := (Lnk.pos_of (and_t hb).1); omega) (by have h0 := (Lnk.pos_of (and_t hb).1); omega) (hx100 (Lnk.pos_of (and_t hb).1)).2.2) rfl rfl ?_
          clear Hz az; intro az Hz
          refine MG Hz rfl rfl gd_gf (fun hb => r_fa (m' := 0) Try.underlying60 rfl Try.sizeOf3 rfl Hz (evg hb rfl) rfl) rfl rfl ?_
          clear Hz az; intro az Hz
          refine MG Hz rfl rfl gd_gf (fun hb => r_ld Try.isAgg3 Hz (evg hb rfl) (((E101 (Lnk.pos_of (and_t hb).1)) _ (Only.refl NoF w91)) 0 _ rfl)) rfl rfl ?_
          clear Hz az; intro az Hz
          refine MG Hz rfl rfl gd_gf (fun hb => r_fa (m' := 0) Try.underlying60 rfl Try.sizeOf3 rfl Hz rfl rfl) rfl rfl ?_
          clear Hz az; intro az Hz
          refine MG Hz rfl rfl gd_gf (fun hb => r_ld Try.isAgg3 Hz (evg hb rfl) ((Blk.ca B102) 0 _ rfl)) rfl rfl ?_
          clear Hz az; intro az Hz
          refine MG Hz rfl rfl gd_gf (fun hb => r_eqI Hz (evg hb rfl) (evg hb rfl)) rfl rfl ?_
          clear Hz az; intro az Hz
          refine MG Hz rfl rfl gd_gf (fun hb => r_mv Hz (evg hb rfl)) rfl rfl ?_
          clear Hz az; intro az Hz
          refine MG Hz rfl rfl gd_gt (fun hb => r_fa (m' := 1) Try.underlying25 rfl Try.sizeOf23 rfl Hz rfl rfl) rfl rfl ?_
          clear Hz az; intro az Hz
          refine MG Hz rfl rfl gd_gt (fun hb => r_ld Try.isAgg23 Hz (evg hb rfl) ((Blk.ca B95) 1 _ rfl)) rfl rfl ?_
          clear Hz az; intro az Hz
          refine MG Hz rfl rfl gd_gt (fun hb => r_mv Hz rfl) rfl rfl ?_
          clear Hz az; intro az Hz
          have i104 : I64 ((k : Int) - 1) := by unfold I64; omega
          refine MG Hz rfl rfl gd_gt (fun hb => r_subI (r := ((k : Int) - 1)) Hz (evg hb rfl) rfl rfl i104) rfl rfl ?_
          clear Hz az; intro az Hz
          refine MG Hz rfl rfl gd_gt (fun hb => r_ia (k := k - 1) (size := 2) Try.underlying23 Try.sizeOf60 Hz (evg hb rfl) (evg hb rfl) (by have h0 := (Lnk.pos_of (and_t (and_t hb).1).1); omega) (by have h0 := (Lnk.pos_of (and_t (and_t hb).1).1); omega) (hx100 (Lnk.pos_of (and_t (and_t hb).1).1)).2.2) rfl rfl ?_
          clear Hz az; intro az Hz
          refine MG Hz rfl rfl gd_gt (fun hb => r_fa (m' := 1) Try.underlying60 rfl Try.sizeOf3 rfl Hz (evg hb rfl) rfl) rfl rfl ?_
          clear Hz az; intro az Hz
          refine MG Hz rfl rfl gd_gt (fun hb => r_ld Try.isAgg3 Hz (evg hb rfl) (((E101 (Lnk.pos_of (and_t (and_t hb).1).1)) _ (Only.refl NoF w91)) 1 _ rfl)) rfl rfl ?_
          clear Hz az; intro az Hz
          refine MG Hz rfl rfl gd_gt (fun hb => r_fa (m' := 1) Try.underlying60 rfl Try.sizeOf3 rfl Hz rfl rfl) rfl rfl ?_
          clear Hz az; intro az Hz
          refine MG Hz rfl rfl gd_gt (fun hb => r_ld Try.isAgg3 Hz (evg hb rfl) ((Blk.ca B102) 1 _ rfl)) rfl rfl ?_
          clear Hz az; intro az Hz
          refine MG Hz rfl rfl gd_gt (fun hb => r_geI Hz (evg hb rfl) (evg hb rfl)) rfl rfl ?_
          clear Hz az; intro az Hz
          refine MG Hz rfl rfl gd_gf (fun hb => r_and Hz (evg hb rfl) (evgc hb rfl) rfl) rfl rfl ?_
          clear Hz az; intro az Hz
          refine MG Hz rfl rfl gd_t (fun hb => r_or Hz (evg hb rfl) rfl (evgc hb rfl)) rfl rfl ?_
          clear Hz az; intro az Hz
          refine M (r_and Hz rfl rfl rfl) Hz rfl rfl ?_
          clear Hz az; intro az Hz
          refine wpMix_nil ?_
          refine hK90 _ _ ?_
          refine br Hz rfl (fun hc105 => ?_) (fun hc105 => ?_)
          · -- if5
            have p106 := of_decide_eq_true (and_t hc105).1
            have d107 := (and_t hc105).2
            refine wp_seq_k fun K108 hK108 => ?_
            -- ref.go:30
            refine wp_region_lit ?_
            refine L (r_as Hz rfl) Hz rfl ?_
            clear Hz az; intro az Hz
            refine hK108 _ _ ?_
            refine wp_ret ?_
            show bodyPost _ _ _ .ret _ _
            refine ret_of (vs := [.bool (false)]) Hz Try.results29 ⟨rfl, trivial⟩ ?_
            exact ⟨congrArg (fun b => Ending.returned (Value.bool b)) (Lnk.oc_bad2 hm60 hx100 hc105).symm, O97⟩
          · -- else5
            have d109 := hc105
            refine wp_skip ?_
            refine hK54 _ _ ?_
            -- ref.go:24
            refine wp_region_lit ?_
            refine L (r_mv Hz rfl) Hz rfl ?_
            clear Hz az; intro az Hz
            have i110 : I64 ((k : Int) + 1) := by unfold I64; omega
            refine L (r_addI (r := ((k : Int) + 1)) Hz rfl rfl rfl i110) Hz rfl ?_
            clear Hz az; intro az Hz
            refine L (r_as Hz rfl) Hz rfl ?_
            clear Hz az; intro az Hz
            have O111 : Only NoF w16 w91 := (Only.trans' (Only.trans' (Only.trans' (o_sg (Only.trans' o47 o66) s71 (size_only o47) (oneF_ge hg68)) o76) o79) o92)
            exact ⟨_, (by omega), k + 1, rfl, Hz.cut ⟨rfl, rfl, trivial⟩, (by omega), (Lnk.oc_step hm60 hok hc81 hx100 hc105), O111⟩
      · -- else3
        have p112 := of_decide_eq_false hc52
        refine wp_exit ?_
        refine th_exit ?_
        refine th_exit ?_
        refine ib_hit ?_
        refine hK44 _ _ ?_
        refine wp_seq_k fun K113 hK113 => ?_
        -- ref.go:33
        refine wp_region_lit ?_
        refine L (r_as Hz rfl) Hz rfl ?_
        clear Hz az; intro az Hz
        refine hK113 _ _ ?_
        refine wp_ret ?_
        show bodyPost _ _ _ .ret _ _
        refine ret_of (vs := [.bool (true)]) Hz Try.results29 ⟨rfl, trivial⟩ ?_
        rw [List.take_of_length_le (by omega)] at hno
        have O114 : Only NoF w w46 := (Only.trans' (Only.trans' o4 o17) o47)
        exact ⟨congrArg (fun b => Ending.returned (Value.bool b)) (Lnk.right_all (of_decide_eq_false hc10) hno (fun i h => hok i h (by omega))).symm, O114⟩

theorem rRight_v {w : World} {v : Value} {a : Air} (h : AirV w v a)  : Calls Try.prog 29 #[v] w (Fix (.bool (Lnk.right a)) w) := by
  obtain ⟨v1, v2, rfl, f1, f2⟩ := h
  obtain ⟨A1, c1, rfl, _⟩ := SliceOf.shape f1
  obtain ⟨A2, c2, rfl, _⟩ := SliceOf.shape f2
  exact rRight_v_ f1 f2 
end Go.Proofs.Ytocbfobakmieoaa
