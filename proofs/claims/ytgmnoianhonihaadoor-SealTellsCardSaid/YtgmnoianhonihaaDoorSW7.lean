/-
  The seal's reference: Right, Check, Convicts, walked. No condition.
-/
import Derived.Test.YtgmnoianhonihaaDoorSW2
import Derived.Test.YtgmnoianhonihaaDoorSW4
import Derived.Test.YtgmnoianhonihaaDoorWir5
namespace Go.Proofs.YtgmnoianhonihaaDoor
set_option linter.unusedVariables false
set_option linter.unusedSimpArgs false
set_option linter.unusedSectionVars false
open Go.RowKit

def prv (l : List RM) : Nat → RM
  | 0 => ⟨-1, 0⟩
  | k + 1 => l.getD k ⟨-1, 0⟩
theorem prv_succ {l : List RM} {k : Nat} {r : RM} (h : l[k]? = some r) : prv l (k + 1) = r := by
  show l.getD k _ = r
  rw [List.getD_eq_getElem?_getD, h]; rfl
def prvD (l : List NM) : Nat → Int
  | 0 => 0
  | k + 1 => (l[k]?.map NM.d).getD 0
theorem prvD_succ {l : List NM} {k : Nat} {r : NM} (h : l[k]? = some r) : prvD l (k + 1) = r.d := by
  show (l[k]?.map NM.d).getD 0 = r.d
  rw [h]; rfl
section
variable {h n : Int} {l : List RM} {k : Nat} {p r : RM}
abbrev inH (x : Int) : Bool := decide (0 ≤ x) && decide (x ≤ 399)
theorem inH_eq {x : Int} : inH x = bel x 400 := by
  unfold inH bel
  rw [decide_eq_decide.2 (show x ≤ 399 ↔ x < 400 from ⟨fun h => by omega, fun h => by omega⟩)]
theorem refR_bad2 (h2 : (((!(decide (0 ≤ r.h) && decide (r.h ≤ 399))) || (!(decide (0 ≤ r.n) && decide (r.n ≤ 399)))) || (decide (r.h = h) && decide (n ≤ r.n))) = true) : refOk h n p r = false := by
  have e : (((!inH r.h) || (!inH r.n)) || (decide (r.h = h) && decide (n ≤ r.n))) = true := h2
  rw [inH_eq, inH_eq] at e
  unfold refOk kn
  rcases tf (bel r.h 400) with a | a
  · rw [a]; simp
  rcases tf (bel r.n 400) with b | b
  · rw [b]; simp
  rw [a, b] at e
  have c : (decide (r.h = h) && decide (n ≤ r.n)) = true := e
  rw [c]; simp
theorem refR_bad3 (hp : l[k - 1]? = some p) (h3 : (decide ((0 : Int) < (k : Int)) && (!refLt p r)) = true) : refOk h n (prv l k) r = false := by
  simp only [Bool.and_eq_true, decide_eq_true_eq, Bool.not_eq_true'] at h3
  obtain ⟨k, rfl⟩ : ∃ q, k = q + 1 := ⟨k - 1, by omega⟩
  rw [prv_succ (r := p) (by simpa using hp)]
  have e : refGt r.h r.n p.h p.n = refLt p r := by
    unfold refGt refLt
    rw [decide_eq_decide.2 (show r.h = p.h ↔ p.h = r.h from eq_comm)]
  unfold refOk
  rw [e, h3.2]; simp
theorem refR_ok (hr : l[k]? = some r) (hp : l[k - 1]? = some p) (h2 : (((!(decide (0 ≤ r.h) && decide (r.h ≤ 399))) || (!(decide (0 ≤ r.n) && decide (r.n ≤ 399)))) || (decide (r.h = h) && decide (n ≤ r.n))) = false) (h3 : (decide ((0 : Int) < (k : Int)) && (!refLt p r)) = false) : refOk h n (prv l k) r = true := by
  have e : (((!inH r.h) || (!inH r.n)) || (decide (r.h = h) && decide (n ≤ r.n))) = false := h2
  rw [inH_eq, inH_eq] at e
  have hg : refGt r.h r.n (prv l k).h (prv l k).n = true := by
    cases k with
    | zero =>
      have h0 : 0 ≤ r.h := by
        simp only [Bool.or_eq_false_iff, Bool.not_eq_false', Bool.and_eq_true, decide_eq_true_eq] at h2
        omega
      show refGt r.h r.n (-1) 0 = true
      unfold refGt
      rw [decide_eq_true (show (-1 : Int) < r.h by omega)]; rfl
    | succ k =>
      rw [prv_succ (r := p) (by simpa using hp)]
      have : refLt p r = true := by
        rcases tf (refLt p r) with h | h
        · rw [h, decide_eq_true (show (0 : Int) < ((k + 1 : Nat) : Int) by omega)] at h3; cases h3
        · exact h
      unfold refGt
      unfold refLt at this
      rwa [decide_eq_decide.2 (show r.h = p.h ↔ p.h = r.h from eq_comm)]
  simp only [Bool.or_eq_false_iff, Bool.not_eq_false'] at e
  unfold refOk kn
  rw [hg, e.1.1, e.1.2, e.2]; rfl
end
theorem headR {m : NM} {b : Bool} (h : (((((!(decide (0 ≤ m.h) && decide (m.h ≤ 399))) || (!(decide (0 ≤ m.n) && decide (m.n ≤ 399)))) || (!(decide (0 ≤ m.d) && decide (m.d ≤ 100000)))) || decide ((8000 : Int) < ((m.s.length : Nat) : Int))) || decide ((40 : Int) < ((m.l.length : Nat) : Int))) = b) : headBad m = b := by
  rw [← h]
  show ((((!(bel m.h 400 && bel m.n 400)) || (!bel m.d 100001)) || _) || _) = (((((!inH m.h) || (!inH m.n)) || _) || _) || _)
  rw [inH_eq, inH_eq, Bool.not_and]
  unfold bel
  rw [decide_eq_decide.2 (show m.d ≤ 100000 ↔ m.d < 100001 from ⟨fun h => by omega, fun h => by omega⟩)]
theorem right_d {m : NM} (h : right m = true) : 0 ≤ m.d := by
  unfold right headBad kn bel at h
  simp only [Bool.and_eq_true, Bool.not_eq_true', Bool.or_eq_false_iff, Bool.not_eq_false', decide_eq_true_eq] at h
  omega
theorem dayR {l : List NM} {k : Nat} {m p : NM} {b : Bool} (hp : l[k - 1]? = some p) (hr : right m = true) (h6 : (decide ((0 : Int) < (k : Int)) && decide (m.d < p.d)) = b) : decide (m.d < prvD l k) = b := by
  rw [← h6]
  cases k with
  | zero =>
    have := right_d hr
    show decide (m.d < 0) = _
    rw [decide_eq_false (by omega : ¬ m.d < 0)]; rfl
  | succ k =>
    rw [prvD_succ (r := p) (by simpa using hp), decide_eq_true (show (0 : Int) < ((k + 1 : Nat) : Int) by omega), Bool.true_and]
set_option maxRecDepth 20000 in
set_option maxHeartbeats 4000000 in
theorem rRight_v {w : World} {m : NM} (h1 : RefsV w (.slice m.A m.l.length m.c) m.l) : Calls Tryd.prog 63 [.agg #[.int .i64 m.h, .int .i64 m.n, .int .i64 m.d, .slice m.A m.l.length m.c, strV m.s]].toArray w (Fix (.bool (right m)) w) := by
  refine calls_start Tryd.func63 rfl rfl ?_
  intro az Hz
  rw [Tryd.ntmps63] at Hz
  refine wp_seq_k fun K1 hK1 => ?_
  -- ref.go:18
  refine wp_region_lit ?_
  refine LBox Hz rfl rfl rfl ?_
  clear Hz az; intro g2 w3 hg6 hl7 o4 B5 az Hz
  refine L (r_as Hz rfl) Hz rfl ?_
  clear Hz az; intro az Hz
  refine hK1 _ _ ?_
  refine wp_seq_k fun K8 hK8 => ?_
  refine wp_seq_k fun K9 hK9 => ?_
  -- ref.go:19
  refine wp_region_lit ?_
  refine L (r_fa (m' := 0) Tryd.underlying54 rfl Tryd.sizeOf3 rfl Hz rfl rfl) Hz rfl ?_
  clear Hz az; intro az Hz
  refine L (r_ld Tryd.isAgg3 Hz rfl ((Blk.ca B5) 0 _ rfl)) Hz rfl ?_
  clear Hz az; intro az Hz
  refine LCV (v := .bool (((decide (0 ≤ m.h)) && (decide (m.h ≤ 399))))) Hz rfl rfl Tryd.call88 (rin_v _ m.h 0 399) rfl fun w10 o11 => ?_
  clear Hz az; intro az Hz
  refine L (r_not Hz rfl) Hz rfl ?_
  clear Hz az; intro az Hz
  refine L (r_mv Hz rfl) Hz rfl ?_
  clear Hz az; intro az Hz
  refine LG Hz rfl rfl gd_f (fun hb => r_fa (m' := 1) Tryd.underlying54 rfl Tryd.sizeOf3 rfl Hz rfl rfl) rfl ?_
  clear Hz az; intro az Hz
  have B12 := (Blk.k B5 o11)
  refine LG Hz rfl rfl gd_f (fun hb => r_ld Tryd.isAgg3 Hz (evg hb rfl) ((Blk.ca B12) 1 _ rfl)) rfl ?_
  clear Hz az; intro az Hz
  refine LGV (v := .bool (((decide (0 ≤ m.n)) && (decide (m.n ≤ 399))))) Hz rfl rfl gd_f rfl (fun hb => (evs_c (evg hb rfl) (evs_c rfl (evs_c rfl rfl)))) Tryd.call88 (fun hb => rin_v _ m.n 0 399) rfl fun w13 o14 => ?_
  clear Hz az; intro az Hz
  refine LG Hz rfl rfl gd_f (fun hb => r_not Hz (evg hb rfl)) rfl ?_
  clear Hz az; intro az Hz
  refine L (r_or Hz rfl rfl rfl) Hz rfl ?_
  clear Hz az; intro az Hz
  refine L (r_mv Hz rfl) Hz rfl ?_
  clear Hz az; intro az Hz
  refine LG Hz rfl rfl gd_f (fun hb => r_fa (m' := 2) Tryd.underlying54 rfl Tryd.sizeOf3 rfl Hz rfl rfl) rfl ?_
  clear Hz az; intro az Hz
  have B15 := (Blk.k B12 o14)
  refine LG Hz rfl rfl gd_f (fun hb => r_ld Tryd.isAgg3 Hz (evg hb rfl) ((Blk.ca B15) 2 _ rfl)) rfl ?_
  clear Hz az; intro az Hz
  refine LGV (v := .bool (((decide (0 ≤ m.d)) && (decide (m.d ≤ 100000))))) Hz rfl rfl gd_f rfl (fun hb => (evs_c (evg hb rfl) (evs_c rfl (evs_c rfl rfl)))) Tryd.call88 (fun hb => rin_v _ m.d 0 100000) rfl fun w16 o17 => ?_
  clear Hz az; intro az Hz
  refine LG Hz rfl rfl gd_f (fun hb => r_not Hz (evg hb rfl)) rfl ?_
  clear Hz az; intro az Hz
  refine L (r_or Hz rfl rfl rfl) Hz rfl ?_
  clear Hz az; intro az Hz
  refine L (r_mv Hz rfl) Hz rfl ?_
  clear Hz az; intro az Hz
  refine LG Hz rfl rfl gd_f (fun hb => r_fa (m' := 4) Tryd.underlying54 rfl Tryd.sizeOf9 rfl Hz rfl rfl) rfl ?_
  clear Hz az; intro az Hz
  have B18 := (Blk.k B15 o17)
  refine LG Hz rfl rfl gd_f (fun hb => r_ld Tryd.isAgg9 Hz (evg hb rfl) ((Blk.ca B18) 4 _ rfl)) rfl ?_
  clear Hz az; intro az Hz
  refine LG Hz rfl rfl gd_f (fun hb => r_lenS Tryd.underlying9 Hz (evg hb rfl)) rfl ?_
  clear Hz az; intro az Hz
  refine LG Hz rfl rfl gd_f (fun hb => r_gtI Hz (evg hb rfl) rfl) rfl ?_
  clear Hz az; intro az Hz
  refine L (r_or Hz rfl rfl rfl) Hz rfl ?_
  clear Hz az; intro az Hz
  refine L (r_mv Hz rfl) Hz rfl ?_
  clear Hz az; intro az Hz
  refine LG Hz rfl rfl gd_f (fun hb => r_fa (m' := 3) Tryd.underlying54 rfl Tryd.sizeOf52 rfl Hz rfl rfl) rfl ?_
  clear Hz az; intro az Hz
  refine LG Hz rfl rfl gd_f (fun hb => r_ld Tryd.isAgg52 Hz (evg hb rfl) ((Blk.ca B18) 3 _ rfl)) rfl ?_
  clear Hz az; intro az Hz
  refine LG Hz rfl rfl gd_f (fun hb => r_lenL Tryd.underlying52 Hz (evg hb rfl)) rfl ?_
  clear Hz az; intro az Hz
  refine LG Hz rfl rfl gd_f (fun hb => r_gtI Hz (evg hb rfl) rfl) rfl ?_
  clear Hz az; intro az Hz
  refine L (r_or Hz rfl rfl rfl) Hz rfl ?_
  clear Hz az; intro az Hz
  refine hK9 _ _ ?_
  refine br Hz rfl (fun hc19 => ?_) (fun hc19 => ?_)
  · -- if0
    have d20 := hc19
    refine wp_seq_k fun K21 hK21 => ?_
    -- ref.go:20
    refine wp_region_lit ?_
    refine L (r_as Hz rfl) Hz rfl ?_
    clear Hz az; intro az Hz
    refine hK21 _ _ ?_
    refine wp_ret ?_
    show bodyPost _ _ _ .ret _ _
    refine ret_of (vs := [.bool (false)]) Hz Tryd.results63 ⟨rfl, trivial⟩ ?_
    have O22 : Only NoF w w16 := (Only.trans' (Only.trans' (Only.trans' o4 o11) o14) o17)
    rw [right_bad (m := m) (headR hc19)]; exact ⟨rfl, O22⟩
  · -- else0
    have p23 := of_decide_eq_true (and_t (nt_f (or_f (or_f (or_f (or_f hc19).1).1).1).1)).1
    have p24 := of_decide_eq_true (and_t (nt_f (or_f (or_f (or_f (or_f hc19).1).1).1).1)).2
    have p25 := of_decide_eq_true (and_t (nt_f (or_f (or_f (or_f (or_f hc19).1).1).1).2)).1
    have p26 := of_decide_eq_true (and_t (nt_f (or_f (or_f (or_f (or_f hc19).1).1).1).2)).2
    have p27 := of_decide_eq_true (and_t (nt_f (or_f (or_f (or_f hc19).1).1).2)).1
    have p28 := of_decide_eq_true (and_t (nt_f (or_f (or_f (or_f hc19).1).1).2)).2
    have p29 := of_decide_eq_false (or_f (or_f hc19).1).2
    have p30 := of_decide_eq_false (or_f hc19).2
    refine wp_skip ?_
    refine hK8 _ _ ?_
    refine wp_seq_k fun K31 hK31 => ?_
    refine wp_seq_k fun K32 hK32 => ?_
    -- ref.go:22
    refine wp_region_lit ?_
    refine L (r_as Hz rfl) Hz rfl ?_
    clear Hz az; intro az Hz
    refine hK32 _ _ ?_
    refine wp_block ?_
    refine wp_loop_m (fun mz az W => ∃ k : Nat, mz = m.l.length - k ∧ Fr 83 [(1, .pointer (some ((⟨g2, 0, none⟩ : Addr)))), (3, .int .i64 ((k : Int)))] az ∧ (k ≤ m.l.length) ∧ (refsOk m.h m.n ⟨-1, 0⟩ m.l = refsOk m.h m.n (prv m.l k) (m.l.drop k)) ∧ Only NoF w W ∧ Blk W g2 54 [.int .i64 (m.h), .int .i64 (m.n), .int .i64 (m.d), .slice m.A (m.l.length) m.c, strV (m.s)].toArray) ?_ ?_
    · -- start
      have O33 : Only NoF w w16 := (Only.trans' (Only.trans' (Only.trans' o4 o11) o14) o17)
      exact ⟨_, 0, rfl, Hz.cut ⟨rfl, rfl, trivial⟩, Nat.zero_le _, rfl, O33, B18⟩
    clear Hz az
    rintro mz az w34 ⟨k, hm36, Hz, hk, hrf, o35, B37⟩
    refine wp_seq_k fun K38 hK38 => ?_
    refine wp_seq_k fun K39 hK39 => ?_
    -- ref.go:22
    refine wp_region_lit ?_
    refine L (r_mv Hz rfl) Hz rfl ?_
    clear Hz az; intro az Hz
    refine L (r_fa (m' := 3) Tryd.underlying54 rfl Tryd.sizeOf52 rfl Hz rfl rfl) Hz rfl ?_
    clear Hz az; intro az Hz
    refine L (r_ld Tryd.isAgg52 Hz rfl ((Blk.ca B37) 3 _ rfl)) Hz rfl ?_
    clear Hz az; intro az Hz
    refine L (r_lenL Tryd.underlying52 Hz rfl) Hz rfl ?_
    clear Hz az; intro az Hz
    refine L (r_ltI Hz rfl rfl) Hz rfl ?_
    clear Hz az; intro az Hz
    refine hK39 _ _ ?_
    refine br Hz rfl (fun hc40 => ?_) (fun hc40 => ?_)
    · -- if1
      have p41 := of_decide_eq_true hc40
      refine wp_skip ?_
      refine hK38 _ _ ?_
      refine wp_seq_k fun K42 hK42 => ?_
      refine wp_block ?_
      refine wp_seq_k fun K43 hK43 => ?_
      -- ref.go:23
      refine wp_region_lit ?_
      refine L (r_fa (m' := 3) Tryd.underlying54 rfl Tryd.sizeOf52 rfl Hz rfl rfl) Hz rfl ?_
      clear Hz az; intro az Hz
      refine L (r_ld Tryd.isAgg52 Hz rfl ((Blk.ca B37) 3 _ rfl)) Hz rfl ?_
      clear Hz az; intro az Hz
      refine L (r_mv Hz rfl) Hz rfl ?_
      clear Hz az; intro az Hz
      have hk44 : k < (m.l).length := by omega
      have h50 := (SliceOf.kp h1 o35 (fun _ _ h => h) (fun _ _ _ _ h => h))
      obtain ⟨m45, hm46, ok47, hA48⟩ := Row.el KRef h50 hk44
      have E49 : ∀ W, Only NoF w34 W → CA W (eA m.A 2 (k)) [.int .i64 (m45.h), .int .i64 (m45.n)] := Row.ce KRef h50 hm46 rfl
      refine L (r_ia (k := k) (size := 2) Tryd.underlying52 Tryd.sizeOf71 Hz rfl rfl rfl hk44 hA48) Hz rfl ?_
      clear Hz az; intro az Hz
      refine L (r_ldA Tryd.isAgg71 Tryd.sizeOf71 Hz rfl (E49 _ (Only.refl NoF w34)) rfl) Hz rfl ?_
      clear Hz az; intro az Hz
      refine LAl (v := .agg #[.int .i64 (0), .int .i64 (0)]) Tryd.zeroValue71 Hz rfl rfl ?_
      clear Hz az; intro g51 w52 hg55 hl56 o53 B54 az Hz
      refine LSt (cs' := [.int .i64 (m45.h), .int .i64 (m45.n)]) Tryd.sizeOf71 Hz rfl rfl rfl rfl rfl ⟨rfl, rfl, trivial⟩ B54 rfl rfl fun w57 s58 B59 => ?_
      refine hK43 _ _ ?_
      refine wp_seq_k fun K60 hK60 => ?_
      refine wp_seq_k fun K61 hK61 => ?_
      -- ref.go:24
      refine wp_region_lit ?_
      refine L (r_fa (m' := 0) Tryd.underlying71 rfl Tryd.sizeOf3 rfl Hz rfl rfl) Hz rfl ?_
      clear Hz az; intro az Hz
      refine L (r_ld Tryd.isAgg3 Hz rfl ((Blk.ca B59) 0 _ rfl)) Hz rfl ?_
      clear Hz az; intro az Hz
      refine LCV (v := .bool (((decide (0 ≤ m45.h)) && (decide (m45.h ≤ 399))))) Hz rfl rfl Tryd.call88 (rin_v _ m45.h 0 399) rfl fun w62 o63 => ?_
      clear Hz az; intro az Hz
      refine L (r_not Hz rfl) Hz rfl ?_
      clear Hz az; intro az Hz
      refine L (r_mv Hz rfl) Hz rfl ?_
      clear Hz az; intro az Hz
      refine LG Hz rfl rfl gd_f (fun hb => r_fa (m' := 1) Tryd.underlying71 rfl Tryd.sizeOf3 rfl Hz rfl rfl) rfl ?_
      clear Hz az; intro az Hz
      have B64 := (Blk.k B59 o63)
      refine LG Hz rfl rfl gd_f (fun hb => r_ld Tryd.isAgg3 Hz (evg hb rfl) ((Blk.ca B64) 1 _ rfl)) rfl ?_
      clear Hz az; intro az Hz
      refine LGV (v := .bool (((decide (0 ≤ m45.n)) && (decide (m45.n ≤ 399))))) Hz rfl rfl gd_f rfl (fun hb => (evs_c (evg hb rfl) (evs_c rfl (evs_c rfl rfl)))) Tryd.call88 (fun hb => rin_v _ m45.n 0 399) rfl fun w65 o66 => ?_
      clear Hz az; intro az Hz
      refine LG Hz rfl rfl gd_f (fun hb => r_not Hz (evg hb rfl)) rfl ?_
      clear Hz az; intro az Hz
      refine L (r_or Hz rfl rfl rfl) Hz rfl ?_
      clear Hz az; intro az Hz
      refine L (r_mv Hz rfl) Hz rfl ?_
      clear Hz az; intro az Hz
      refine LG Hz rfl rfl gd_f (fun hb => r_fa (m' := 0) Tryd.underlying71 rfl Tryd.sizeOf3 rfl Hz rfl rfl) rfl ?_
      clear Hz az; intro az Hz
      have B67 := (Blk.k B64 o66)
      refine LG Hz rfl rfl gd_f (fun hb => r_ld Tryd.isAgg3 Hz (evg hb rfl) ((Blk.ca B67) 0 _ rfl)) rfl ?_
      clear Hz az; intro az Hz
      refine LG Hz rfl rfl gd_f (fun hb => r_fa (m' := 0) Tryd.underlying54 rfl Tryd.sizeOf3 rfl Hz rfl rfl) rfl ?_
      clear Hz az; intro az Hz
      have ne68 : g2 ≠ g51 := (ne_of (Blk.lt B37) hg55)
      have B69 := (Blk.k (Blk.k (Blk.st (Blk.k B37 o53) s58 ne68) o63) o66)
      refine LG Hz rfl rfl gd_f (fun hb => r_ld Tryd.isAgg3 Hz (evg hb rfl) ((Blk.ca B69) 0 _ rfl)) rfl ?_
      clear Hz az; intro az Hz
      refine LG Hz rfl rfl gd_f (fun hb => r_eqI Hz (evg hb rfl) (evg hb rfl)) rfl ?_
      clear Hz az; intro az Hz
      refine LG Hz rfl rfl gd_f (fun hb => r_mv Hz (evg hb rfl)) rfl ?_
      clear Hz az; intro az Hz
      refine LG Hz rfl rfl gd_gt (fun hb => r_fa (m' := 1) Tryd.underlying71 rfl Tryd.sizeOf3 rfl Hz rfl rfl) rfl ?_
      clear Hz az; intro az Hz
      refine LG Hz rfl rfl gd_gt (fun hb => r_ld Tryd.isAgg3 Hz (evg hb rfl) ((Blk.ca B67) 1 _ rfl)) rfl ?_
      clear Hz az; intro az Hz
      refine LG Hz rfl rfl gd_gt (fun hb => r_fa (m' := 1) Tryd.underlying54 rfl Tryd.sizeOf3 rfl Hz rfl rfl) rfl ?_
      clear Hz az; intro az Hz
      refine LG Hz rfl rfl gd_gt (fun hb => r_ld Tryd.isAgg3 Hz (evg hb rfl) ((Blk.ca B69) 1 _ rfl)) rfl ?_
      clear Hz az; intro az Hz
      refine LG Hz rfl rfl gd_gt (fun hb => r_geI Hz (evg hb rfl) (evg hb rfl)) rfl ?_
      clear Hz az; intro az Hz
      refine LG Hz rfl rfl gd_f (fun hb => r_and Hz (evg hb rfl) (evgc hb rfl) rfl) rfl ?_
      clear Hz az; intro az Hz
      refine L (r_or Hz rfl rfl rfl) Hz rfl ?_
      clear Hz az; intro az Hz
      refine hK61 _ _ ?_
      refine br Hz rfl (fun hc70 => ?_) (fun hc70 => ?_)
      · -- if2
        have d71 := hc70
        refine wp_seq_k fun K72 hK72 => ?_
        -- ref.go:25
        refine wp_region_lit ?_
        refine L (r_as Hz rfl) Hz rfl ?_
        clear Hz az; intro az Hz
        refine hK72 _ _ ?_
        refine wp_ret ?_
        show bodyPost _ _ _ .ret _ _
        refine ret_of (vs := [.bool (false)]) Hz Tryd.results63 ⟨rfl, trivial⟩ ?_
        have O73 : Only NoF w w65 := (Only.trans' (Only.trans' (o_sg (Only.trans' o35 o53) s58 (size_only o35) (oneF_ge hg55)) o63) o66)
        have hro := refR_bad2 (p := prv m.l k) hc70
        rw [right_of (m := m) (b := false) (headR hc19) hrf (by rw [refsOk_drop hm46, hro, Bool.false_and])]; exact ⟨rfl, O73⟩
      · -- else2
        have p74 := of_decide_eq_true (and_t (nt_f (or_f (or_f hc70).1).1)).1
        have p75 := of_decide_eq_true (and_t (nt_f (or_f (or_f hc70).1).1)).2
        have p76 := of_decide_eq_true (and_t (nt_f (or_f (or_f hc70).1).2)).1
        have p77 := of_decide_eq_true (and_t (nt_f (or_f (or_f hc70).1).2)).2
        have d78 := (or_f hc70).2
        refine wp_skip ?_
        refine hK60 _ _ ?_
        refine wp_seq_k fun K79 hK79 => ?_
        -- ref.go:27
        refine reg_p NoF 1 [11] (.rd 0 (.rd 1 (.rd 2 (.rd 3 (.rd 4 (.rd 5 (.rd 6 (.rd 7 (.rd 8 (.rd 9 (.rd 10 (.ex 11 (.rd 12 (.rd 13 .nil)))))))))))))) (by kernel_rfl) (by kernel_rfl) (fun _ _ _ _ _ h => h) fun w80 o81 => ?_
        have B82 := (Blk.k B69 o81)
        have B83 := (Blk.k B67 o81)
        refine Pl.MSP (b := true) (by kernel_rfl) (fun W oW => r_mv Hz rfl) Hz rfl rfl ?_
        clear Hz az; intro az Hz
        refine Pl.MSP (b := true) (by kernel_rfl) (fun W oW => r_gtI Hz rfl rfl) Hz rfl rfl ?_
        clear Hz az; intro az Hz
        refine Pl.MSP (b := true) (by kernel_rfl) (fun W oW => r_mv Hz rfl) Hz rfl rfl ?_
        clear Hz az; intro az Hz
        refine Pl.MSPG (b := true) (by kernel_rfl) Hz rfl rfl gd_t (fun hb W oW => r_fa (m' := 3) Tryd.underlying54 rfl Tryd.sizeOf52 rfl Hz rfl rfl) rfl rfl ?_
        clear Hz az; intro az Hz
        refine Pl.MSPG (b := true) (by kernel_rfl) Hz rfl rfl gd_t (fun hb W oW => r_ld Tryd.isAgg52 Hz (evg hb rfl) ((Blk.ca (Blk.k B82 oW)) 3 _ rfl)) rfl rfl ?_
        clear Hz az; intro az Hz
        refine Pl.MSPG (b := true) (by kernel_rfl) Hz rfl rfl gd_t (fun hb W oW => r_mv Hz rfl) rfl rfl ?_
        clear Hz az; intro az Hz
        have i84 : I64 (((k : Int) - 1)) := by unfold I64; omega
        refine Pl.MSPG (b := true) (by kernel_rfl) Hz rfl rfl gd_t (fun hb W oW => r_subI (r := ((k : Int) - 1)) Hz (evg hb rfl) rfl rfl i84) rfl rfl ?_
        clear Hz az; intro az Hz
        refine Pl.MSPG (b := true) (by kernel_rfl) Hz rfl rfl gd_t (fun hb W oW => r_max Hz (evg hb rfl) rfl) rfl rfl ?_
        clear Hz az; intro az Hz
        have z85 : (max (((k : Int) - 1)) (0)) = ((k - 1 : Nat) : Int) := by omega
        have hk86 : (k - 1) < (m.l).length := by omega
        have O92 : Only NoF w w80 := (Only.trans' (Only.trans' (Only.trans' (o_sg (Only.trans' o35 o53) s58 (size_only o35) (oneF_ge hg55)) o63) o66) o81)
        have h93 := (SliceOf.kp h1 O92 (fun _ _ h => h) (fun _ _ _ _ h => h))
        obtain ⟨m87, hm88, ok89, hA90⟩ := Row.el KRef h93 hk86
        have E91 : ∀ W, Only NoF w80 W → CA W (eA m.A 2 ((k - 1))) [.int .i64 (m87.h), .int .i64 (m87.n)] := Row.ce KRef h93 hm88 rfl
        refine Pl.MSPG (b := true) (by kernel_rfl) Hz rfl rfl gd_t (fun hb W oW => r_ia (k := (k - 1)) (size := 2) Tryd.underlying52 Tryd.sizeOf71 Hz (evg hb rfl) (evg hb rfl) z85 hk86 hA90) rfl rfl ?_
        clear Hz az; intro az Hz
        refine Pl.MSPG (b := true) (by kernel_rfl) Hz rfl rfl gd_t (fun hb W oW => r_ldA Tryd.isAgg71 Tryd.sizeOf71 Hz (evg hb rfl) (E91 _ (Only.trans' (Only.refl NoF w80) oW)) rfl) rfl rfl ?_
        clear Hz az; intro az Hz
        refine Pl.MSPG (b := true) (by kernel_rfl) Hz rfl rfl gd_t (fun hb W oW => r_ldA Tryd.isAgg71 Tryd.sizeOf71 Hz rfl (Blk.ca (Blk.k B83 oW)) rfl) rfl rfl ?_
        clear Hz az; intro az Hz
        refine Pl.MSGV (v := .bool (refLt m87 m45)) Hz rfl rfl gd_t rfl rfl (fun hb => (evs_c (evg hb rfl) (evs_c (evg hb rfl) rfl))) Tryd.call67 (fun hb => rLess_v _ m87 m45) rfl (fun w' o' => ⟨fun _ => o', (Only.trans (Only.refl NoF w80) o' (fun _ h => h.elim))⟩) fun w94 o95 => ?_
        clear Hz az; intro az Hz
        refine Pl.MSPG (b := true) (by kernel_rfl) Hz rfl rfl gd_t (fun hb W oW => r_not Hz (evg hb rfl)) rfl rfl ?_
        clear Hz az; intro az Hz
        refine Pl.MSP (b := true) (by kernel_rfl) (fun W oW => r_and Hz rfl rfl rfl) Hz rfl rfl ?_
        clear Hz az; intro az Hz
        refine wpPl_nil ?_
        refine hK79 _ _ ?_
        refine br Hz rfl (fun hc96 => ?_) (fun hc96 => ?_)
        · -- if3
          have p97 := of_decide_eq_true (and_t hc96).1
          have q98 : refLt m87 m45 = false := (nt_t (and_t hc96).2)
          refine wp_seq_k fun K99 hK99 => ?_
          -- ref.go:28
          refine wp_region_lit ?_
          refine L (r_as Hz rfl) Hz rfl ?_
          clear Hz az; intro az Hz
          refine hK99 _ _ ?_
          refine wp_ret ?_
          show bodyPost _ _ _ .ret _ _
          refine ret_of (vs := [.bool (false)]) Hz Tryd.results63 ⟨rfl, trivial⟩ ?_
          have O100 : Only NoF w w94 := (Only.trans' O92 o95)
          have hro := refR_bad3 (h := m.h) (n := m.n) hm88 hc96
          rw [right_of (m := m) (b := false) (headR hc19) hrf (by rw [refsOk_drop hm46, hro, Bool.false_and])]; exact ⟨rfl, O100⟩
        · -- else3
          have d101 := hc96
          refine wp_skip ?_
          refine hK42 _ _ ?_
          -- ref.go:22
          refine wp_region_lit ?_
          refine L (r_mv Hz rfl) Hz rfl ?_
          clear Hz az; intro az Hz
          have i102 : I64 (((k : Int) + 1)) := by unfold I64; omega
          refine L (r_addI (r := ((k : Int) + 1)) Hz rfl rfl rfl i102) Hz rfl ?_
          clear Hz az; intro az Hz
          refine L (r_as Hz rfl) Hz rfl ?_
          clear Hz az; intro az Hz
          have hro := refR_ok hm46 hm88 hc70 hc96
          have O103 : Only NoF w w94 := (Only.trans' O92 o95)
          have B104 := (Blk.k B82 o95)
          exact ⟨_, (by omega), k + 1, rfl, Hz.cut ⟨rfl, rfl, trivial⟩, (by omega), (by rw [hrf, refsOk_drop hm46, hro, Bool.true_and, prv_succ hm46]), O103, B104⟩
    · -- else1
      have p105 := of_decide_eq_false hc40
      refine wp_exit ?_
      refine th_exit ?_
      refine th_exit ?_
      refine ib_hit ?_
      refine hK31 _ _ ?_
      refine wp_seq_k fun K106 hK106 => ?_
      -- ref.go:31
      refine wp_region_lit ?_
      refine L (r_as Hz rfl) Hz rfl ?_
      clear Hz az; intro az Hz
      refine hK106 _ _ ?_
      refine wp_ret ?_
      show bodyPost _ _ _ .ret _ _
      refine ret_of (vs := [.bool (true)]) Hz Tryd.results63 ⟨rfl, trivial⟩ ?_
      rw [right_of (m := m) (b := true) (headR hc19) hrf (by rw [List.drop_of_length_le (by omega)]; rfl)]; exact ⟨rfl, o35⟩

set_option maxRecDepth 20000 in
set_option maxHeartbeats 4000000 in
theorem rCheck_v_ {w : World} {l : List NM} {A1 : Option Addr} {c1 : Nat} (f1 : NotesV w w (.slice A1 l.length c1) l) : Calls Tryd.prog 61 [.slice A1 l.length c1].toArray w (Fix (.int .i64 (check l)) w) := by
  refine calls_start Tryd.func61 rfl rfl ?_
  intro az Hz
  rw [Tryd.ntmps61] at Hz
  refine wp_seq_k fun K1 hK1 => ?_
  -- ref.go:53
  refine wp_region_lit ?_
  refine L (r_as Hz rfl) Hz rfl ?_
  clear Hz az; intro az Hz
  refine hK1 _ _ ?_
  refine wp_seq_k fun K2 hK2 => ?_
  refine wp_seq_k fun K3 hK3 => ?_
  -- ref.go:54
  refine wp_region_lit ?_
  refine L (r_mv Hz rfl) Hz rfl ?_
  clear Hz az; intro az Hz
  refine L (r_lenL Tryd.underlying51 Hz rfl) Hz rfl ?_
  clear Hz az; intro az Hz
  refine L (r_gtI Hz rfl rfl) Hz rfl ?_
  clear Hz az; intro az Hz
  refine hK3 _ _ ?_
  refine br Hz rfl (fun hc4 => ?_) (fun hc4 => ?_)
  · -- if0
    have p5 := of_decide_eq_true hc4
    refine wp_seq_k fun K6 hK6 => ?_
    -- ref.go:55
    refine wp_region_lit ?_
    refine L (r_as Hz rfl) Hz rfl ?_
    clear Hz az; intro az Hz
    refine hK6 _ _ ?_
    refine wp_ret ?_
    show bodyPost _ _ _ .ret _ _
    refine ret_of (vs := [.int .i64 (6)]) Hz Tryd.results61 ⟨rfl, trivial⟩ ?_
    rw [check_many hc4]; exact ⟨rfl, (Only.refl NoF w)⟩
  · -- else0
    have p7 := of_decide_eq_false hc4
    refine wp_skip ?_
    refine hK2 _ _ ?_
    refine wp_seq_k fun K8 hK8 => ?_
    refine wp_seq_k fun K9 hK9 => ?_
    -- ref.go:57
    refine wp_region_lit ?_
    refine L (r_as Hz rfl) Hz rfl ?_
    clear Hz az; intro az Hz
    refine hK9 _ _ ?_
    refine wp_block ?_
    refine wp_loop_m (fun mz az W => ∃ k : Nat, mz = l.length - k ∧ Fr 60 [(0, .slice A1 (l.length) c1), (3, .int .i64 ((k : Int)))] az ∧ (k ≤ l.length) ∧ (chk (hdH l) 0 0 l = chk (hdH l) k (prvD l k) (l.drop k)) ∧ Only NoF w W) ?_ ?_
    · -- start
      exact ⟨_, 0, rfl, Hz.cut ⟨rfl, rfl, trivial⟩, Nat.zero_le _, rfl, (Only.refl NoF w)⟩
    clear Hz az
    rintro mz az w10 ⟨k, hm12, Hz, hk, hck, o11⟩
    refine wp_seq_k fun K13 hK13 => ?_
    refine wp_seq_k fun K14 hK14 => ?_
    -- ref.go:57
    refine wp_region_lit ?_
    refine L (r_mv Hz rfl) Hz rfl ?_
    clear Hz az; intro az Hz
    refine L (r_mv Hz rfl) Hz rfl ?_
    clear Hz az; intro az Hz
    refine L (r_lenL Tryd.underlying51 Hz rfl) Hz rfl ?_
    clear Hz az; intro az Hz
    refine L (r_ltI Hz rfl rfl) Hz rfl ?_
    clear Hz az; intro az Hz
    refine hK14 _ _ ?_
    refine br Hz rfl (fun hc15 => ?_) (fun hc15 => ?_)
    · -- if1
      have p16 := of_decide_eq_true hc15
      refine wp_skip ?_
      refine hK13 _ _ ?_
      refine wp_seq_k fun K17 hK17 => ?_
      refine wp_block ?_
      refine wp_seq_k fun K18 hK18 => ?_
      refine wp_seq_k fun K19 hK19 => ?_
      -- ref.go:58
      refine wp_region_lit ?_
      refine L (r_mv Hz rfl) Hz rfl ?_
      clear Hz az; intro az Hz
      refine L (r_mv Hz rfl) Hz rfl ?_
      clear Hz az; intro az Hz
      have hk20 : k < (l).length := by omega
      have h26 := (SliceOf.kp f1 o11 (fun _ _ h => h) (fun _ _ _ _ h => h))
      obtain ⟨m21, hm22, ok23, hA24⟩ := Row.el (KNote w) h26 hk20
      have E25 : ∀ W, Only NoF w10 W → CA W (eA A1 5 (k)) [.int .i64 (m21.h), .int .i64 (m21.n), .int .i64 (m21.d), .slice m21.A (m21.l.length) m21.c, strV (m21.s)] := Row.ce (KNote w) h26 hm22 rfl
      refine L (r_ia (k := k) (size := 5) Tryd.underlying51 Tryd.sizeOf54 Hz rfl rfl rfl hk20 hA24) Hz rfl ?_
      clear Hz az; intro az Hz
      refine L (r_ldA Tryd.isAgg54 Tryd.sizeOf54 Hz rfl (E25 _ (Only.refl NoF w10)) rfl) Hz rfl ?_
      clear Hz az; intro az Hz
      have h27 := (SliceOf.kp ok23.2.2.2.1 o11 (fun _ _ h => h) (fun _ _ _ _ h => h))
      refine LCV (v := .bool (right m21)) Hz rfl rfl Tryd.call63 (rRight_v h27) rfl fun w28 o29 => ?_
      clear Hz az; intro az Hz
      refine L (r_not Hz rfl) Hz rfl ?_
      clear Hz az; intro az Hz
      refine hK19 _ _ ?_
      refine br Hz rfl (fun hc30 => ?_) (fun hc30 => ?_)
      · -- if2
        have q31 : right m21 = false := (nt_t hc30)
        refine wp_seq_k fun K32 hK32 => ?_
        -- ref.go:59
        refine wp_region_lit ?_
        refine L (r_as Hz rfl) Hz rfl ?_
        clear Hz az; intro az Hz
        refine hK32 _ _ ?_
        refine wp_ret ?_
        show bodyPost _ _ _ .ret _ _
        refine ret_of (vs := [.int .i64 (1)]) Hz Tryd.results61 ⟨rfl, trivial⟩ ?_
        have O33 : Only NoF w w28 := (Only.trans' o11 o29)
        rw [check_of hc4 hck]
        rw [chk_2 hm22 hc30]; exact ⟨rfl, O33⟩
      · -- else2
        have q34 : right m21 = true := (nt_f hc30)
        refine wp_skip ?_
        refine hK18 _ _ ?_
        refine wp_seq_k fun K35 hK35 => ?_
        refine wp_seq_k fun K36 hK36 => ?_
        -- ref.go:61
        refine reg_q [(true, 0), (true, 1), (true, 2), (true, 3), (true, 4), (true, 5), (true, 6), (true, 7), (true, 8), (true, 9)] (by kernel_rfl) (by kernel_rfl) (fun _ _ _ _ _ h => h) fun w37 o38 => ?_
        refine M (r_mv Hz rfl) Hz rfl rfl ?_
        clear Hz az; intro az Hz
        refine M (r_mv Hz rfl) Hz rfl rfl ?_
        clear Hz az; intro az Hz
        refine M (r_ia (k := k) (size := 5) Tryd.underlying51 Tryd.sizeOf54 Hz rfl rfl rfl hk20 hA24) Hz rfl rfl ?_
        clear Hz az; intro az Hz
        refine M (r_fa (m' := 0) Tryd.underlying54 rfl Tryd.sizeOf3 rfl Hz rfl rfl) Hz rfl rfl ?_
        clear Hz az; intro az Hz
        have O39 : Only NoF w10 w37 := (Only.trans' o29 o38)
        refine M (r_ld Tryd.isAgg3 Hz rfl ((E25 _ O39) 0 _ rfl)) Hz rfl rfl ?_
        clear Hz az; intro az Hz
        refine M (r_mv Hz rfl) Hz rfl rfl ?_
        clear Hz az; intro az Hz
        have hk40 : 0 < (l).length := by omega
        have O46 : Only NoF w w37 := (Only.trans' (Only.trans' o11 o29) o38)
        have h47 := (SliceOf.kp f1 O46 (fun _ _ h => h) (fun _ _ _ _ h => h))
        obtain ⟨m41, hm42, ok43, hA44⟩ := Row.el (KNote w) h47 hk40
        have E45 : ∀ W, Only NoF w37 W → CA W (eA A1 5 (0)) [.int .i64 (m41.h), .int .i64 (m41.n), .int .i64 (m41.d), .slice m41.A (m41.l.length) m41.c, strV (m41.s)] := Row.ce (KNote w) h47 hm42 rfl
        refine M (r_ia (k := 0) (size := 5) Tryd.underlying51 Tryd.sizeOf54 Hz rfl rfl rfl hk40 hA44) Hz rfl rfl ?_
        clear Hz az; intro az Hz
        refine M (r_fa (m' := 0) Tryd.underlying54 rfl Tryd.sizeOf3 rfl Hz rfl rfl) Hz rfl rfl ?_
        clear Hz az; intro az Hz
        refine M (r_ld Tryd.isAgg3 Hz rfl ((E45 _ (Only.refl NoF w37)) 0 _ rfl)) Hz rfl rfl ?_
        clear Hz az; intro az Hz
        refine M (r_neI Hz rfl rfl) Hz rfl rfl ?_
        clear Hz az; intro az Hz
        refine wpMix_nil ?_
        refine hK36 _ _ ?_
        refine br Hz rfl (fun hc48 => ?_) (fun hc48 => ?_)
        · -- if3
          have p49 := of_decide_eq_false (nt_t hc48)
          refine wp_seq_k fun K50 hK50 => ?_
          -- ref.go:62
          refine wp_region_lit ?_
          refine L (r_as Hz rfl) Hz rfl ?_
          clear Hz az; intro az Hz
          refine hK50 _ _ ?_
          refine wp_ret ?_
          show bodyPost _ _ _ .ret _ _
          refine ret_of (vs := [.int .i64 (19)]) Hz Tryd.results61 ⟨rfl, trivial⟩ ?_
          rw [check_of hc4 hck]
          rw [chk_3 hm22 hc30 (by rw [← hdH_of hm42]; exact hc48)]; exact ⟨rfl, O46⟩
        · -- else3
          have p51 := of_decide_eq_true (nt_f hc48)
          refine wp_skip ?_
          refine hK35 _ _ ?_
          refine wp_seq_k fun K52 hK52 => ?_
          refine wp_seq_k fun K53 hK53 => ?_
          -- ref.go:64
          refine wp_region_lit ?_
          refine L (r_mv Hz rfl) Hz rfl ?_
          clear Hz az; intro az Hz
          refine L (r_mv Hz rfl) Hz rfl ?_
          clear Hz az; intro az Hz
          refine L (r_ia (k := k) (size := 5) Tryd.underlying51 Tryd.sizeOf54 Hz rfl rfl rfl hk20 hA24) Hz rfl ?_
          clear Hz az; intro az Hz
          refine L (r_fa (m' := 1) Tryd.underlying54 rfl Tryd.sizeOf3 rfl Hz rfl rfl) Hz rfl ?_
          clear Hz az; intro az Hz
          refine L (r_ld Tryd.isAgg3 Hz rfl ((E25 _ O39) 1 _ rfl)) Hz rfl ?_
          clear Hz az; intro az Hz
          refine L (r_mv Hz rfl) Hz rfl ?_
          clear Hz az; intro az Hz
          refine L (r_gtI Hz rfl rfl) Hz rfl ?_
          clear Hz az; intro az Hz
          refine hK53 _ _ ?_
          refine br Hz rfl (fun hc54 => ?_) (fun hc54 => ?_)
          · -- if4
            have p55 := of_decide_eq_true hc54
            refine wp_seq_k fun K56 hK56 => ?_
            -- ref.go:65
            refine wp_region_lit ?_
            refine L (r_as Hz rfl) Hz rfl ?_
            clear Hz az; intro az Hz
            refine hK56 _ _ ?_
            refine wp_ret ?_
            show bodyPost _ _ _ .ret _ _
            refine ret_of (vs := [.int .i64 (21)]) Hz Tryd.results61 ⟨rfl, trivial⟩ ?_
            rw [check_of hc4 hck]
            rw [chk_4 hm22 hc30 (by rw [← hdH_of hm42]; exact hc48) hc54]; exact ⟨rfl, O46⟩
          · -- else4
            have p57 := of_decide_eq_false hc54
            refine wp_skip ?_
            refine hK52 _ _ ?_
            refine wp_seq_k fun K58 hK58 => ?_
            refine wp_seq_k fun K59 hK59 => ?_
            -- ref.go:67
            refine wp_region_lit ?_
            refine L (r_mv Hz rfl) Hz rfl ?_
            clear Hz az; intro az Hz
            refine L (r_mv Hz rfl) Hz rfl ?_
            clear Hz az; intro az Hz
            refine L (r_ia (k := k) (size := 5) Tryd.underlying51 Tryd.sizeOf54 Hz rfl rfl rfl hk20 hA24) Hz rfl ?_
            clear Hz az; intro az Hz
            refine L (r_fa (m' := 1) Tryd.underlying54 rfl Tryd.sizeOf3 rfl Hz rfl rfl) Hz rfl ?_
            clear Hz az; intro az Hz
            refine L (r_ld Tryd.isAgg3 Hz rfl ((E25 _ O39) 1 _ rfl)) Hz rfl ?_
            clear Hz az; intro az Hz
            refine L (r_mv Hz rfl) Hz rfl ?_
            clear Hz az; intro az Hz
            refine L (r_ltI Hz rfl rfl) Hz rfl ?_
            clear Hz az; intro az Hz
            refine hK59 _ _ ?_
            refine br Hz rfl (fun hc60 => ?_) (fun hc60 => ?_)
            · -- if5
              have p61 := of_decide_eq_true hc60
              refine wp_seq_k fun K62 hK62 => ?_
              -- ref.go:68
              refine wp_region_lit ?_
              refine L (r_as Hz rfl) Hz rfl ?_
              clear Hz az; intro az Hz
              refine hK62 _ _ ?_
              refine wp_ret ?_
              show bodyPost _ _ _ .ret _ _
              refine ret_of (vs := [.int .i64 (5)]) Hz Tryd.results61 ⟨rfl, trivial⟩ ?_
              rw [check_of hc4 hck]
              rw [chk_5 hm22 hc30 (by rw [← hdH_of hm42]; exact hc48) hc54 hc60]; exact ⟨rfl, O46⟩
            · -- else5
              have p63 := of_decide_eq_false hc60
              refine wp_skip ?_
              refine hK58 _ _ ?_
              refine wp_seq_k fun K64 hK64 => ?_
              -- ref.go:70
              refine reg_q [(true, 0), (true, 1), (true, 2), (true, 3), (true, 4), (true, 5), (true, 6), (true, 7), (true, 8), (true, 9), (true, 10), (true, 11), (true, 12), (true, 13), (true, 14), (true, 15), (true, 16)] (by kernel_rfl) (by kernel_rfl) (fun _ _ _ _ _ h => h) fun w65 o66 => ?_
              refine M (r_mv Hz rfl) Hz rfl rfl ?_
              clear Hz az; intro az Hz
              refine M (r_gtI Hz rfl rfl) Hz rfl rfl ?_
              clear Hz az; intro az Hz
              refine M (r_mv Hz rfl) Hz rfl rfl ?_
              clear Hz az; intro az Hz
              refine MG Hz rfl rfl gd_t (fun hb => r_mv Hz rfl) rfl rfl ?_
              clear Hz az; intro az Hz
              refine MG Hz rfl rfl gd_t (fun hb => r_mv Hz rfl) rfl rfl ?_
              clear Hz az; intro az Hz
              refine MG Hz rfl rfl gd_t (fun hb => r_ia (k := k) (size := 5) Tryd.underlying51 Tryd.sizeOf54 Hz (evg hb rfl) (evg hb rfl) rfl hk20 hA24) rfl rfl ?_
              clear Hz az; intro az Hz
              refine MG Hz rfl rfl gd_t (fun hb => r_fa (m' := 2) Tryd.underlying54 rfl Tryd.sizeOf3 rfl Hz (evg hb rfl) rfl) rfl rfl ?_
              clear Hz az; intro az Hz
              have O67 : Only NoF w10 w65 := (Only.trans' O39 o66)
              refine MG Hz rfl rfl gd_t (fun hb => r_ld Tryd.isAgg3 Hz (evg hb rfl) ((E25 _ O67) 2 _ rfl)) rfl rfl ?_
              clear Hz az; intro az Hz
              refine MG Hz rfl rfl gd_t (fun hb => r_mv Hz rfl) rfl rfl ?_
              clear Hz az; intro az Hz
              refine MG Hz rfl rfl gd_t (fun hb => r_mv Hz rfl) rfl rfl ?_
              clear Hz az; intro az Hz
              have i68 : I64 (((k : Int) - 1)) := by unfold I64; omega
              refine MG Hz rfl rfl gd_t (fun hb => r_subI (r := ((k : Int) - 1)) Hz (evg hb rfl) rfl rfl i68) rfl rfl ?_
              clear Hz az; intro az Hz
              refine MG Hz rfl rfl gd_t (fun hb => r_max Hz (evg hb rfl) rfl) rfl rfl ?_
              clear Hz az; intro az Hz
              have z69 : (max (((k : Int) - 1)) (0)) = ((k - 1 : Nat) : Int) := by omega
              have hk70 : (k - 1) < (l).length := by omega
              have O76 : Only NoF w w65 := (Only.trans' O46 o66)
              have h77 := (SliceOf.kp f1 O76 (fun _ _ h => h) (fun _ _ _ _ h => h))
              obtain ⟨m71, hm72, ok73, hA74⟩ := Row.el (KNote w) h77 hk70
              have E75 : ∀ W, Only NoF w65 W → CA W (eA A1 5 ((k - 1))) [.int .i64 (m71.h), .int .i64 (m71.n), .int .i64 (m71.d), .slice m71.A (m71.l.length) m71.c, strV (m71.s)] := Row.ce (KNote w) h77 hm72 rfl
              refine MG Hz rfl rfl gd_t (fun hb => r_ia (k := (k - 1)) (size := 5) Tryd.underlying51 Tryd.sizeOf54 Hz (evg hb rfl) (evg hb rfl) z69 hk70 hA74) rfl rfl ?_
              clear Hz az; intro az Hz
              refine MG Hz rfl rfl gd_t (fun hb => r_fa (m' := 2) Tryd.underlying54 rfl Tryd.sizeOf3 rfl Hz (evg hb rfl) rfl) rfl rfl ?_
              clear Hz az; intro az Hz
              refine MG Hz rfl rfl gd_t (fun hb => r_ld Tryd.isAgg3 Hz (evg hb rfl) ((E75 _ (Only.refl NoF w65)) 2 _ rfl)) rfl rfl ?_
              clear Hz az; intro az Hz
              refine MG Hz rfl rfl gd_t (fun hb => r_ltI Hz (evg hb rfl) (evg hb rfl)) rfl rfl ?_
              clear Hz az; intro az Hz
              refine M (r_and Hz rfl rfl rfl) Hz rfl rfl ?_
              clear Hz az; intro az Hz
              refine wpMix_nil ?_
              refine hK64 _ _ ?_
              refine br Hz rfl (fun hc78 => ?_) (fun hc78 => ?_)
              · -- if6
                have p79 := of_decide_eq_true (and_t hc78).1
                have p80 := of_decide_eq_true (and_t hc78).2
                refine wp_seq_k fun K81 hK81 => ?_
                -- ref.go:71
                refine wp_region_lit ?_
                refine L (r_as Hz rfl) Hz rfl ?_
                clear Hz az; intro az Hz
                refine hK81 _ _ ?_
                refine wp_ret ?_
                show bodyPost _ _ _ .ret _ _
                refine ret_of (vs := [.int .i64 (18)]) Hz Tryd.results61 ⟨rfl, trivial⟩ ?_
                rw [check_of hc4 hck]
                rw [chk_6 hm22 hc30 (by rw [← hdH_of hm42]; exact hc48) hc54 hc60 (dayR hm72 (nt_f hc30) hc78)]; exact ⟨rfl, O76⟩
              · -- else6
                have d82 := hc78
                refine wp_skip ?_
                refine hK17 _ _ ?_
                -- ref.go:57
                refine wp_region_lit ?_
                refine L (r_mv Hz rfl) Hz rfl ?_
                clear Hz az; intro az Hz
                have i83 : I64 (((k : Int) + 1)) := by unfold I64; omega
                refine L (r_addI (r := ((k : Int) + 1)) Hz rfl rfl rfl i83) Hz rfl ?_
                clear Hz az; intro az Hz
                refine L (r_as Hz rfl) Hz rfl ?_
                clear Hz az; intro az Hz
                exact ⟨_, (by omega), k + 1, rfl, Hz.cut ⟨rfl, rfl, trivial⟩, (by omega), (by rw [hck, chk_next hm22 hc30 (by rw [← hdH_of hm42]; exact hc48) hc54 hc60 (dayR hm72 (nt_f hc30) hc78), prvD_succ hm22]), O76⟩
    · -- else1
      have p84 := of_decide_eq_false hc15
      refine wp_exit ?_
      refine th_exit ?_
      refine th_exit ?_
      refine ib_hit ?_
      refine hK8 _ _ ?_
      refine wp_seq_k fun K85 hK85 => ?_
      -- ref.go:74
      refine wp_region_lit ?_
      refine L (r_as Hz rfl) Hz rfl ?_
      clear Hz az; intro az Hz
      refine hK85 _ _ ?_
      refine wp_ret ?_
      show bodyPost _ _ _ .ret _ _
      refine ret_of (vs := [.int .i64 (0)]) Hz Tryd.results61 ⟨rfl, trivial⟩ ?_
      rw [check_of hc4 hck]
      rw [List.drop_of_length_le (by omega)]; exact ⟨rfl, o11⟩

theorem rCheck_v {w : World} {v : Value} {l : List NM} (h : NotesV w w v l) : Calls Tryd.prog 61 #[v] w (Fix (.int .i64 (check l)) w) := by
  obtain ⟨A1, c1, rfl, _⟩ := SliceOf.shape h
  exact rCheck_v_ h

set_option maxRecDepth 20000 in
set_option maxHeartbeats 4000000 in
theorem rConvicts_v {w : World} {m m2 : NM} (h1 : RefsV w (.slice m.A m.l.length m.c) m.l) (h2 : RefsV w (.slice m2.A m2.l.length m2.c) m2.l) : Calls Tryd.prog 66 [.agg #[.int .i64 m.h, .int .i64 m.n, .int .i64 m.d, .slice m.A m.l.length m.c, strV m.s], .agg #[.int .i64 m2.h, .int .i64 m2.n, .int .i64 m2.d, .slice m2.A m2.l.length m2.c, strV m2.s]].toArray w (Fix (.bool (convicts m m2)) w) := by
  refine calls_start Tryd.func66 rfl rfl ?_
  intro az Hz
  rw [Tryd.ntmps66] at Hz
  refine wp_seq_k fun K1 hK1 => ?_
  -- ref.go:88
  refine wp_region_lit ?_
  refine LBox Hz rfl rfl rfl ?_
  clear Hz az; intro g2 w3 hg6 hl7 o4 B5 az Hz
  refine LBox Hz rfl rfl rfl ?_
  clear Hz az; intro g8 w9 hg12 hl13 o10 B11 az Hz
  refine L (r_as Hz rfl) Hz rfl ?_
  clear Hz az; intro az Hz
  refine hK1 _ _ ?_
  refine wp_seq_k fun K14 hK14 => ?_
  -- ref.go:89
  refine wp_region_lit ?_
  have B15 := (Blk.k B5 o10)
  refine L (r_ldA Tryd.isAgg54 Tryd.sizeOf54 Hz rfl (Blk.ca B15) rfl) Hz rfl ?_
  clear Hz az; intro az Hz
  have O16 : Only NoF w w9 := (Only.trans' o4 o10)
  have h17 := (SliceOf.kp h1 O16 (fun _ _ h => h) (fun _ _ _ _ h => h))
  refine LCV (v := .bool (right m)) Hz rfl rfl Tryd.call63 (rRight_v h17) rfl fun w18 o19 => ?_
  clear Hz az; intro az Hz
  refine L (r_mv Hz rfl) Hz rfl ?_
  clear Hz az; intro az Hz
  have B20 := (Blk.k B11 o19)
  refine LG Hz rfl rfl gd_t (fun hb => r_ldA Tryd.isAgg54 Tryd.sizeOf54 Hz rfl (Blk.ca B20) rfl) rfl ?_
  clear Hz az; intro az Hz
  have O21 : Only NoF w w18 := (Only.trans' O16 o19)
  have h22 := (SliceOf.kp h2 O21 (fun _ _ h => h) (fun _ _ _ _ h => h))
  refine LGV (v := .bool (right m2)) Hz rfl rfl gd_t rfl (fun hb => (evs_c (evg hb rfl) rfl)) Tryd.call63 (fun hb => rRight_v h22) rfl fun w23 o24 => ?_
  clear Hz az; intro az Hz
  refine L (r_and Hz rfl rfl rfl) Hz rfl ?_
  clear Hz az; intro az Hz
  refine L (r_mv Hz rfl) Hz rfl ?_
  clear Hz az; intro az Hz
  refine LG Hz rfl rfl gd_t (fun hb => r_fa (m' := 0) Tryd.underlying54 rfl Tryd.sizeOf3 rfl Hz rfl rfl) rfl ?_
  clear Hz az; intro az Hz
  have B25 := (Blk.k (Blk.k B15 o19) o24)
  refine LG Hz rfl rfl gd_t (fun hb => r_ld Tryd.isAgg3 Hz (evg hb rfl) ((Blk.ca B25) 0 _ rfl)) rfl ?_
  clear Hz az; intro az Hz
  refine LG Hz rfl rfl gd_t (fun hb => r_fa (m' := 0) Tryd.underlying54 rfl Tryd.sizeOf3 rfl Hz rfl rfl) rfl ?_
  clear Hz az; intro az Hz
  have B26 := (Blk.k B20 o24)
  refine LG Hz rfl rfl gd_t (fun hb => r_ld Tryd.isAgg3 Hz (evg hb rfl) ((Blk.ca B26) 0 _ rfl)) rfl ?_
  clear Hz az; intro az Hz
  refine LG Hz rfl rfl gd_t (fun hb => r_eqI Hz (evg hb rfl) (evg hb rfl)) rfl ?_
  clear Hz az; intro az Hz
  refine L (r_and Hz rfl rfl rfl) Hz rfl ?_
  clear Hz az; intro az Hz
  refine L (r_mv Hz rfl) Hz rfl ?_
  clear Hz az; intro az Hz
  refine LG Hz rfl rfl gd_t (fun hb => r_fa (m' := 1) Tryd.underlying54 rfl Tryd.sizeOf3 rfl Hz rfl rfl) rfl ?_
  clear Hz az; intro az Hz
  refine LG Hz rfl rfl gd_t (fun hb => r_ld Tryd.isAgg3 Hz (evg hb rfl) ((Blk.ca B25) 1 _ rfl)) rfl ?_
  clear Hz az; intro az Hz
  refine LG Hz rfl rfl gd_t (fun hb => r_fa (m' := 1) Tryd.underlying54 rfl Tryd.sizeOf3 rfl Hz rfl rfl) rfl ?_
  clear Hz az; intro az Hz
  refine LG Hz rfl rfl gd_t (fun hb => r_ld Tryd.isAgg3 Hz (evg hb rfl) ((Blk.ca B26) 1 _ rfl)) rfl ?_
  clear Hz az; intro az Hz
  refine LG Hz rfl rfl gd_t (fun hb => r_eqI Hz (evg hb rfl) (evg hb rfl)) rfl ?_
  clear Hz az; intro az Hz
  refine L (r_and Hz rfl rfl rfl) Hz rfl ?_
  clear Hz az; intro az Hz
  refine L (r_mv Hz rfl) Hz rfl ?_
  clear Hz az; intro az Hz
  refine LG Hz rfl rfl gd_t (fun hb => r_ldA Tryd.isAgg54 Tryd.sizeOf54 Hz rfl (Blk.ca B25) rfl) rfl ?_
  clear Hz az; intro az Hz
  refine LG Hz rfl rfl gd_t (fun hb => r_ldA Tryd.isAgg54 Tryd.sizeOf54 Hz rfl (Blk.ca B26) rfl) rfl ?_
  clear Hz az; intro az Hz
  have O27 : Only NoF w w23 := (Only.trans' O21 o24)
  have h28 := (SliceOf.kp h1 O27 (fun _ _ h => h) (fun _ _ _ _ h => h))
  have h29 := (SliceOf.kp h2 O27 (fun _ _ h => h) (fun _ _ _ _ h => h))
  refine LGV (v := .bool (same m m2)) Hz rfl rfl gd_t rfl (fun hb => (evs_c (evg hb rfl) (evs_c (evg hb rfl) rfl))) Tryd.call59 (fun hb => rSame_v h28 h29) rfl fun w30 o31 => ?_
  clear Hz az; intro az Hz
  refine LG Hz rfl rfl gd_t (fun hb => r_not Hz (evg hb rfl)) rfl ?_
  clear Hz az; intro az Hz
  refine L (r_and Hz rfl rfl rfl) Hz rfl ?_
  clear Hz az; intro az Hz
  refine L (r_as Hz rfl) Hz rfl ?_
  clear Hz az; intro az Hz
  refine hK14 _ _ ?_
  refine wp_ret ?_
  show bodyPost _ _ _ .ret _ _
  refine ret_of (vs := [.bool ((((((right m) && (right m2)) && (decide (m.h = m2.h))) && (decide (m.n = m2.n))) && (!(same m m2))))]) Hz Tryd.results66 ⟨rfl, trivial⟩ ?_
  have O32 : Only NoF w w30 := (Only.trans' O27 o31)
  exact ⟨rfl, O32⟩
end Go.Proofs.YtgmnoianhonihaaDoor
