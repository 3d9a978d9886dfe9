/-
  The seal's reference: Right, Check, Convicts, walked. No condition.
  The seal's reference: Next, Encode, walked. Condition for Next: at most 1000 of each.
  The seal's reference: Decode, walked. Condition: at most 1,000,000 bytes.
-/
import Derived.Test.YtdcbjedkddgfkaaGreatDoorSA
import Derived.Test.YtdcbjedkddgfkaaGreatDoorWir5
import Derived.Test.YtdcbjedkddgfkaaGreatDoorWR
import Derived.Test.YtdcbjedkddgfkaaGreatDoorWU
namespace Go.Proofs.YtdcbjedkddgfkaaGreatDoor
set_option maxHeartbeats 4000000
set_option maxRecDepth 20000
set_option linter.unusedVariables false
set_option linter.unusedSimpArgs false
set_option linter.unusedSectionVars false
section
open Go.RowKit
def prv (l : List RM) : Nat → RM
 | 0 => ⟨-1, 0⟩
 | k + 1 => l.getD k ⟨-1, 0⟩
theorem prv_succ {l : List RM} {k : Nat} {r : RM} (h : l[k]? = some r) : prv l (k + 1) = r := by
 show l.getD k _ = r
 rw [List.getD_eq_getElem?_getD, h]; rfl
def prvD (l : List NM) : Nat → Int
 | 0 => 0
 | k + 1 => (l[k]?.map NM.d).getD 0
theorem prvD_succ {l : List NM} {k : Nat} {r : NM} (h : l[k]? = some r) : prvD l (k + 1) = r.d := by
 show (l[k]?.map NM.d).getD 0 = r.d
 rw [h]; rfl
section
variable {h n : Int} {l : List RM} {k : Nat} {p r : RM}
abbrev inH (x : Int) : Bool := decide (0 ≤ x) && decide (x ≤ 399)
theorem inH_eq {x : Int} : inH x = bel x 400 := by
 unfold inH bel
 rw [decide_eq_decide.2 (show x ≤ 399 ↔ x < 400 from ⟨fun h => by omega, fun h => by omega⟩)]
theorem refR_bad2 (h2 : (((!(decide (0 ≤ r.h) && decide (r.h ≤ 399))) || (!(decide (0 ≤ r.n) && decide (r.n ≤ 399)))) || (decide (r.h = h) && decide (n ≤ r.n))) = true) : refOk h n p r = false := by
 have e : (((!inH r.h) || (!inH r.n)) || (decide (r.h = h) && decide (n ≤ r.n))) = true := h2
 rw [inH_eq, inH_eq] at e
 unfold refOk kn
 rcases tf (bel r.h 400) with a | a
 · rw [a]; simp
 rcases tf (bel r.n 400) with b | b
 · rw [b]; simp
 rw [a, b] at e
 have c : (decide (r.h = h) && decide (n ≤ r.n)) = true := e
 rw [c]; simp
theorem refR_bad3 (hp : l[k - 1]? = some p) (h3 : (decide ((0 : Int) < (k : Int)) && (!refLt p r)) = true) : refOk h n (prv l k) r = false := by
 simp only [Bool.and_eq_true, decide_eq_true_eq, Bool.not_eq_true'] at h3
 obtain ⟨k, rfl⟩ : ∃ q, k = q + 1 := ⟨k - 1, by omega⟩
 rw [prv_succ (r := p) (by simpa using hp)]
 have e : refGt r.h r.n p.h p.n = refLt p r := by
  unfold refGt refLt
  rw [decide_eq_decide.2 (show r.h = p.h ↔ p.h = r.h from eq_comm)]
 unfold refOk
 rw [e, h3.2]; simp
theorem refR_ok (hr : l[k]? = some r) (hp : l[k - 1]? = some p) (h2 : (((!(decide (0 ≤ r.h) && decide (r.h ≤ 399))) || (!(decide (0 ≤ r.n) && decide (r.n ≤ 399)))) || (decide (r.h = h) && decide (n ≤ r.n))) = false) (h3 : (decide ((0 : Int) < (k : Int)) && (!refLt p r)) = false) : refOk h n (prv l k) r = true := by
 have e : (((!inH r.h) || (!inH r.n)) || (decide (r.h = h) && decide (n ≤ r.n))) = false := h2
 rw [inH_eq, inH_eq] at e
 have hg : refGt r.h r.n (prv l k).h (prv l k).n = true := by
  cases k with
  | zero =>
   have h0 : 0 ≤ r.h := by
    simp only [Bool.or_eq_false_iff, Bool.not_eq_false', Bool.and_eq_true, decide_eq_true_eq] at h2
    omega
   show refGt r.h r.n (-1) 0 = true
   unfold refGt
   rw [decide_eq_true (show (-1 : Int) < r.h by omega)]; rfl
  | succ k =>
   rw [prv_succ (r := p) (by simpa using hp)]
   have : refLt p r = true := by
    rcases tf (refLt p r) with h | h
    · rw [h, decide_eq_true (show (0 : Int) < ((k + 1 : Nat) : Int) by omega)] at h3; cases h3
    · exact h
   unfold refGt
   unfold refLt at this
   rwa [decide_eq_decide.2 (show r.h = p.h ↔ p.h = r.h from eq_comm)]
 simp only [Bool.or_eq_false_iff, Bool.not_eq_false'] at e
 unfold refOk kn
 rw [hg, e.1.1, e.1.2, e.2]; rfl
end
theorem headR {m : NM} {b : Bool} (h : (((((!(decide (0 ≤ m.h) && decide (m.h ≤ 399))) || (!(decide (0 ≤ m.n) && decide (m.n ≤ 399)))) || (!(decide (0 ≤ m.d) && decide (m.d ≤ 100000)))) || decide ((8000 : Int) < ((m.s.length : Nat) : Int))) || decide ((40 : Int) < ((m.l.length : Nat) : Int))) = b) : headBad m = b := by
 rw [← h]
 show ((((!(bel m.h 400 && bel m.n 400)) || (!bel m.d 100001)) || _) || _) = (((((!inH m.h) || (!inH m.n)) || _) || _) || _)
 rw [inH_eq, inH_eq, Bool.not_and]
 unfold bel
 rw [decide_eq_decide.2 (show m.d ≤ 100000 ↔ m.d < 100001 from ⟨fun h => by omega, fun h => by omega⟩)]
theorem right_d {m : NM} (h : right m = true) : 0 ≤ m.d := by
 unfold right headBad kn bel at h
 simp only [Bool.and_eq_true, Bool.not_eq_true', Bool.or_eq_false_iff, Bool.not_eq_false', decide_eq_true_eq] at h
 omega
theorem dayR {l : List NM} {k : Nat} {m p : NM} {b : Bool} (hp : l[k - 1]? = some p) (hr : right m = true) (h6 : (decide ((0 : Int) < (k : Int)) && decide (m.d < p.d)) = b) : decide (m.d < prvD l k) = b := by
 rw [← h6]
 cases k with
 | zero =>
  have := right_d hr
  show decide (m.d < 0) = _
  rw [decide_eq_false (by omega : ¬ m.d < 0)]; rfl
 | succ k =>
  rw [prvD_succ (r := p) (by simpa using hp), decide_eq_true (show (0 : Int) < ((k + 1 : Nat) : Int) by omega), Bool.true_and]
theorem rRight_v {w : World} {m : NM} (h1 : RefsV w (.slice m.A m.l.length m.c) m.l) : Calls Tryz.prog 56 [.agg #[.int .i64 m.h, .int .i64 m.n, .int .i64 m.d, .slice m.A m.l.length m.c, strV m.s]].toArray w (Fix (.bool (right m)) w) := by
 refine calls_start Tryz.func56 rfl rfl ?_
 intro az Z
 rw [Tryz.ntmps56] at Z
 refine wp_seq_k fun _ k1 => wp_region_lit ?_
 refine LBox Z rfl rfl rfl ?_
 clear Z az; intro g2 w3 hg6 hl7 o4 B5 az Z
 refine L (r_as Z rfl) Z rfl ?_; clear Z az; intro az Z
 refine k1 _ _ (wp_seq_k fun _ k8 => ?_)
 refine wp_seq_k fun _ k9 => wp_region_lit ?_
 refine L (r_fa (m' := 0) Tryz.underlying43 rfl Tryz.sizeOf3 rfl Z rfl rfl) Z rfl ?_; clear Z az; intro az Z
 refine L (r_ld Tryz.isAgg3 Z rfl ((Blk.ca B5) 0 _ rfl)) Z rfl ?_; clear Z az; intro az Z
 refine LCV (v := .bool (((decide (0 ≤ m.h)) && (decide (m.h ≤ 399))))) Z rfl rfl Tryz.call93 (rin_v _ m.h 0 399) rfl fun w10 o11 => ?_; clear Z az; intro az Z
 refine L (r_not Z rfl) Z rfl ?_; clear Z az; intro az Z
 refine L (r_mv Z rfl) Z rfl ?_; clear Z az; intro az Z
 refine LG Z rfl rfl gd_f (fun hb => r_fa (m' := 1) Tryz.underlying43 rfl Tryz.sizeOf3 rfl Z rfl rfl) rfl ?_; clear Z az; intro az Z
 have B12 := (Blk.k B5 o11)
 refine LG Z rfl rfl gd_f (fun hb => r_ld Tryz.isAgg3 Z (evg hb rfl) ((Blk.ca B12) 1 _ rfl)) rfl ?_; clear Z az; intro az Z
 refine LGV (v := .bool (((decide (0 ≤ m.n)) && (decide (m.n ≤ 399))))) Z rfl rfl gd_f rfl (fun hb => (evs_c (evg hb rfl) (evs_c rfl (evs_c rfl rfl)))) Tryz.call93 (fun hb => rin_v _ m.n 0 399) rfl fun w13 o14 => ?_; clear Z az; intro az Z
 refine LG Z rfl rfl gd_f (fun hb => r_not Z (evg hb rfl)) rfl ?_; clear Z az; intro az Z
 refine L (r_or Z rfl rfl rfl) Z rfl ?_; clear Z az; intro az Z
 refine L (r_mv Z rfl) Z rfl ?_; clear Z az; intro az Z
 refine LG Z rfl rfl gd_f (fun hb => r_fa (m' := 2) Tryz.underlying43 rfl Tryz.sizeOf3 rfl Z rfl rfl) rfl ?_; clear Z az; intro az Z
 have B15 := (Blk.k B12 o14)
 refine LG Z rfl rfl gd_f (fun hb => r_ld Tryz.isAgg3 Z (evg hb rfl) ((Blk.ca B15) 2 _ rfl)) rfl ?_; clear Z az; intro az Z
 refine LGV (v := .bool (((decide (0 ≤ m.d)) && (decide (m.d ≤ 100000))))) Z rfl rfl gd_f rfl (fun hb => (evs_c (evg hb rfl) (evs_c rfl (evs_c rfl rfl)))) Tryz.call93 (fun hb => rin_v _ m.d 0 100000) rfl fun w16 o17 => ?_; clear Z az; intro az Z
 refine LG Z rfl rfl gd_f (fun hb => r_not Z (evg hb rfl)) rfl ?_; clear Z az; intro az Z
 refine L (r_or Z rfl rfl rfl) Z rfl ?_; clear Z az; intro az Z
 refine L (r_mv Z rfl) Z rfl ?_; clear Z az; intro az Z
 refine LG Z rfl rfl gd_f (fun hb => r_fa (m' := 4) Tryz.underlying43 rfl Tryz.sizeOf9 rfl Z rfl rfl) rfl ?_; clear Z az; intro az Z
 have B18 := (Blk.k B15 o17)
 refine LG Z rfl rfl gd_f (fun hb => r_ld Tryz.isAgg9 Z (evg hb rfl) ((Blk.ca B18) 4 _ rfl)) rfl ?_; clear Z az; intro az Z
 refine LG Z rfl rfl gd_f (fun hb => r_lenS Tryz.underlying9 Z (evg hb rfl)) rfl ?_; clear Z az; intro az Z
 refine LG Z rfl rfl gd_f (fun hb => r_gtI Z (evg hb rfl) rfl) rfl ?_; clear Z az; intro az Z
 refine L (r_or Z rfl rfl rfl) Z rfl ?_; clear Z az; intro az Z
 refine L (r_mv Z rfl) Z rfl ?_; clear Z az; intro az Z
 refine LG Z rfl rfl gd_f (fun hb => r_fa (m' := 3) Tryz.underlying43 rfl Tryz.sizeOf35 rfl Z rfl rfl) rfl ?_; clear Z az; intro az Z
 refine LG Z rfl rfl gd_f (fun hb => r_ld Tryz.isAgg35 Z (evg hb rfl) ((Blk.ca B18) 3 _ rfl)) rfl ?_; clear Z az; intro az Z
 refine LG Z rfl rfl gd_f (fun hb => r_lenL Tryz.underlying35 Z (evg hb rfl)) rfl ?_; clear Z az; intro az Z
 refine LG Z rfl rfl gd_f (fun hb => r_gtI Z (evg hb rfl) rfl) rfl ?_; clear Z az; intro az Z
 refine L (r_or Z rfl rfl rfl) Z rfl ?_; clear Z az; intro az Z
 refine k9 _ _ ?_
 refine br Z rfl (fun hc19 => ?_) (fun hc19 => ?_)
 ·
  have d20 := hc19
  refine wp_seq_k fun _ k21 => wp_region_lit ?_
  refine L (r_as Z rfl) Z rfl ?_; clear Z az; intro az Z
  refine k21 _ _ ?_
  refine wp_ret ?_
  show bodyPost _ _ _ .ret _ _
  refine ret_of (vs := [.bool (false)]) Z Tryz.results56 ⟨rfl, trivial⟩ ?_
  have O22 : Only NoF w w16 := (Only.trans' (Only.trans' (Only.trans' o4 o11) o14) o17)
  rw [right_bad (m := m) (headR hc19)]; exact ⟨rfl, O22⟩
 ·
  have p23 := of_decide_eq_true (and_t (nt_f (or_f (or_f (or_f (or_f hc19).1).1).1).1)).1
  have p24 := of_decide_eq_true (and_t (nt_f (or_f (or_f (or_f (or_f hc19).1).1).1).1)).2
  have p25 := of_decide_eq_true (and_t (nt_f (or_f (or_f (or_f (or_f hc19).1).1).1).2)).1
  have p26 := of_decide_eq_true (and_t (nt_f (or_f (or_f (or_f (or_f hc19).1).1).1).2)).2
  have p27 := of_decide_eq_true (and_t (nt_f (or_f (or_f (or_f hc19).1).1).2)).1
  have p28 := of_decide_eq_true (and_t (nt_f (or_f (or_f (or_f hc19).1).1).2)).2
  have p29 := of_decide_eq_false (or_f (or_f hc19).1).2
  have p30 := of_decide_eq_false (or_f hc19).2
  refine wp_skip ?_
  refine k8 _ _ (wp_seq_k fun _ k31 => ?_)
  refine wp_seq_k fun _ k32 => wp_region_lit ?_
  refine L (r_as Z rfl) Z rfl ?_; clear Z az; intro az Z
  refine k32 _ _ ?_
  refine wp_block ?_
  refine wp_loop_m (fun mz az W => ∃ k : Nat, mz = m.l.length - k ∧ Fr 83 [(1, .pointer (some ((⟨g2, 0, none⟩ : Addr)))), (3, .int .i64 ((k : Int)))] az ∧ (k ≤ m.l.length) ∧ (refsOk m.h m.n ⟨-1, 0⟩ m.l = refsOk m.h m.n (prv m.l k) (m.l.drop k)) ∧ Only NoF w W ∧ Blk W g2 43 [.int .i64 (m.h), .int .i64 (m.n), .int .i64 (m.d), .slice m.A (m.l.length) m.c, strV (m.s)].toArray) ?_ ?_
  ·
   have O33 : Only NoF w w16 := (Only.trans' (Only.trans' (Only.trans' o4 o11) o14) o17)
   exact ⟨_, 0, rfl, Z.cut ⟨rfl, rfl, trivial⟩, Nat.zero_le _, rfl, O33, B18⟩
  clear Z az
  rintro mz az w34 ⟨k, hm36, Z, hk, hrf, o35, B37⟩
  refine wp_seq_k fun _ k38 => ?_
  refine wp_seq_k fun _ k39 => wp_region_lit ?_
  refine L (r_mv Z rfl) Z rfl ?_; clear Z az; intro az Z
  refine L (r_fa (m' := 3) Tryz.underlying43 rfl Tryz.sizeOf35 rfl Z rfl rfl) Z rfl ?_; clear Z az; intro az Z
  refine L (r_ld Tryz.isAgg35 Z rfl ((Blk.ca B37) 3 _ rfl)) Z rfl ?_; clear Z az; intro az Z
  refine L (r_lenL Tryz.underlying35 Z rfl) Z rfl ?_; clear Z az; intro az Z
  refine L (r_ltI Z rfl rfl) Z rfl ?_; clear Z az; intro az Z
  refine k39 _ _ ?_
  refine br Z rfl (fun hc40 => ?_) (fun hc40 => ?_)
  ·
   have p41 := of_decide_eq_true hc40
   refine wp_skip ?_
   refine k38 _ _ (wp_seq_k fun _ k42 => ?_)
   refine wp_block ?_
   refine wp_seq_k fun _ k43 => wp_region_lit ?_
   refine L (r_fa (m' := 3) Tryz.underlying43 rfl Tryz.sizeOf35 rfl Z rfl rfl) Z rfl ?_; clear Z az; intro az Z
   refine L (r_ld Tryz.isAgg35 Z rfl ((Blk.ca B37) 3 _ rfl)) Z rfl ?_; clear Z az; intro az Z
   refine L (r_mv Z rfl) Z rfl ?_; clear Z az; intro az Z
   have hk44 : k < (m.l).length := by omega
   have h50 := (SliceOf.kp h1 o35 (fun _ _ h => h) (fun _ _ _ _ h => h))
   obtain ⟨m45, hm46, ok47, hA48⟩ := Row.el KRef h50 hk44
   have E49 : ∀ W, Only NoF w34 W → CA W (eA m.A 2 (k)) [.int .i64 (m45.h), .int .i64 (m45.n)] := Row.ce KRef h50 hm46 rfl
   refine L (r_ia (k := k) (size := 2) Tryz.underlying35 Tryz.sizeOf59 Z rfl rfl rfl hk44 hA48) Z rfl ?_; clear Z az; intro az Z
   refine L (r_ldA Tryz.isAgg59 Tryz.sizeOf59 Z rfl (E49 _ (Only.refl NoF w34)) rfl) Z rfl ?_; clear Z az; intro az Z
   refine LAl (v := .agg #[.int .i64 (0), .int .i64 (0)]) Tryz.zeroValue59 Z rfl rfl ?_
   clear Z az; intro g51 w52 hg55 hl56 o53 B54 az Z
   refine LSt (cs' := [.int .i64 (m45.h), .int .i64 (m45.n)]) Tryz.sizeOf59 Z rfl rfl rfl rfl rfl ⟨rfl, rfl, trivial⟩ B54 rfl rfl fun w57 s58 B59 => ?_
   refine k43 _ _ (wp_seq_k fun _ k60 => ?_)
   refine wp_seq_k fun _ k61 => wp_region_lit ?_
   refine L (r_fa (m' := 0) Tryz.underlying59 rfl Tryz.sizeOf3 rfl Z rfl rfl) Z rfl ?_; clear Z az; intro az Z
   refine L (r_ld Tryz.isAgg3 Z rfl ((Blk.ca B59) 0 _ rfl)) Z rfl ?_; clear Z az; intro az Z
   refine LCV (v := .bool (((decide (0 ≤ m45.h)) && (decide (m45.h ≤ 399))))) Z rfl rfl Tryz.call93 (rin_v _ m45.h 0 399) rfl fun w62 o63 => ?_; clear Z az; intro az Z
   refine L (r_not Z rfl) Z rfl ?_; clear Z az; intro az Z
   refine L (r_mv Z rfl) Z rfl ?_; clear Z az; intro az Z
   refine LG Z rfl rfl gd_f (fun hb => r_fa (m' := 1) Tryz.underlying59 rfl Tryz.sizeOf3 rfl Z rfl rfl) rfl ?_; clear Z az; intro az Z
   have B64 := (Blk.k B59 o63)
   refine LG Z rfl rfl gd_f (fun hb => r_ld Tryz.isAgg3 Z (evg hb rfl) ((Blk.ca B64) 1 _ rfl)) rfl ?_; clear Z az; intro az Z
   refine LGV (v := .bool (((decide (0 ≤ m45.n)) && (decide (m45.n ≤ 399))))) Z rfl rfl gd_f rfl (fun hb => (evs_c (evg hb rfl) (evs_c rfl (evs_c rfl rfl)))) Tryz.call93 (fun hb => rin_v _ m45.n 0 399) rfl fun w65 o66 => ?_; clear Z az; intro az Z
   refine LG Z rfl rfl gd_f (fun hb => r_not Z (evg hb rfl)) rfl ?_; clear Z az; intro az Z
   refine L (r_or Z rfl rfl rfl) Z rfl ?_; clear Z az; intro az Z
   refine L (r_mv Z rfl) Z rfl ?_; clear Z az; intro az Z
   refine LG Z rfl rfl gd_f (fun hb => r_fa (m' := 0) Tryz.underlying59 rfl Tryz.sizeOf3 rfl Z rfl rfl) rfl ?_; clear Z az; intro az Z
   have B67 := (Blk.k B64 o66)
   refine LG Z rfl rfl gd_f (fun hb => r_ld Tryz.isAgg3 Z (evg hb rfl) ((Blk.ca B67) 0 _ rfl)) rfl ?_; clear Z az; intro az Z
   refine LG Z rfl rfl gd_f (fun hb => r_fa (m' := 0) Tryz.underlying43 rfl Tryz.sizeOf3 rfl Z rfl rfl) rfl ?_; clear Z az; intro az Z
   have ne68 : g2 ≠ g51 := (ne_of (Blk.lt B37) hg55)
   have B69 := (Blk.k (Blk.k (Blk.st (Blk.k B37 o53) s58 ne68) o63) o66)
   refine LG Z rfl rfl gd_f (fun hb => r_ld Tryz.isAgg3 Z (evg hb rfl) ((Blk.ca B69) 0 _ rfl)) rfl ?_; clear Z az; intro az Z
   refine LG Z rfl rfl gd_f (fun hb => r_eqI Z (evg hb rfl) (evg hb rfl)) rfl ?_; clear Z az; intro az Z
   refine LG Z rfl rfl gd_f (fun hb => r_mv Z (evg hb rfl)) rfl ?_; clear Z az; intro az Z
   refine LG Z rfl rfl gd_gt (fun hb => r_fa (m' := 1) Tryz.underlying59 rfl Tryz.sizeOf3 rfl Z rfl rfl) rfl ?_; clear Z az; intro az Z
   refine LG Z rfl rfl gd_gt (fun hb => r_ld Tryz.isAgg3 Z (evg hb rfl) ((Blk.ca B67) 1 _ rfl)) rfl ?_; clear Z az; intro az Z
   refine LG Z rfl rfl gd_gt (fun hb => r_fa (m' := 1) Tryz.underlying43 rfl Tryz.sizeOf3 rfl Z rfl rfl) rfl ?_; clear Z az; intro az Z
   refine LG Z rfl rfl gd_gt (fun hb => r_ld Tryz.isAgg3 Z (evg hb rfl) ((Blk.ca B69) 1 _ rfl)) rfl ?_; clear Z az; intro az Z
   refine LG Z rfl rfl gd_gt (fun hb => r_geI Z (evg hb rfl) (evg hb rfl)) rfl ?_; clear Z az; intro az Z
   refine LG Z rfl rfl gd_f (fun hb => r_and Z (evg hb rfl) (evgc hb rfl) rfl) rfl ?_; clear Z az; intro az Z
   refine L (r_or Z rfl rfl rfl) Z rfl ?_; clear Z az; intro az Z
   refine k61 _ _ ?_
   refine br Z rfl (fun hc70 => ?_) (fun hc70 => ?_)
   ·
    have d71 := hc70
    refine wp_seq_k fun _ k72 => wp_region_lit ?_
    refine L (r_as Z rfl) Z rfl ?_; clear Z az; intro az Z
    refine k72 _ _ ?_
    refine wp_ret ?_
    show bodyPost _ _ _ .ret _ _
    refine ret_of (vs := [.bool (false)]) Z Tryz.results56 ⟨rfl, trivial⟩ ?_
    have O73 : Only NoF w w65 := (Only.trans' (Only.trans' (o_sg (Only.trans' o35 o53) s58 (size_only o35) (oneF_ge hg55)) o63) o66)
    have hro := refR_bad2 (p := prv m.l k) hc70
    rw [right_of (m := m) (b := false) (headR hc19) hrf (by rw [refsOk_drop hm46, hro, Bool.false_and])]; exact ⟨rfl, O73⟩
   ·
    have p74 := of_decide_eq_true (and_t (nt_f (or_f (or_f hc70).1).1)).1
    have p75 := of_decide_eq_true (and_t (nt_f (or_f (or_f hc70).1).1)).2
    have p76 := of_decide_eq_true (and_t (nt_f (or_f (or_f hc70).1).2)).1
    have p77 := of_decide_eq_true (and_t (nt_f (or_f (or_f hc70).1).2)).2
    have d78 := (or_f hc70).2
    refine wp_skip ?_
    refine k60 _ _ (wp_seq_k fun _ k79 => ?_)
    refine reg_p NoF 1 [11] (.rd 0 (.rd 1 (.rd 2 (.rd 3 (.rd 4 (.rd 5 (.rd 6 (.rd 7 (.rd 8 (.rd 9 (.rd 10 (.ex 11 (.rd 12 (.rd 13 .nil)))))))))))))) (by kernel_rfl) (by kernel_rfl) (fun _ _ _ _ _ h => h) fun w80 o81 => ?_
    have B82 := (Blk.k B69 o81)
    have B83 := (Blk.k B67 o81)
    refine Pl.MSP (b := true) (by kernel_rfl) (fun W oW => r_mv Z rfl) Z rfl rfl ?_; clear Z az; intro az Z
    refine Pl.MSP (b := true) (by kernel_rfl) (fun W oW => r_gtI Z rfl rfl) Z rfl rfl ?_; clear Z az; intro az Z
    refine Pl.MSP (b := true) (by kernel_rfl) (fun W oW => r_mv Z rfl) Z rfl rfl ?_; clear Z az; intro az Z
    refine Pl.MSPG (b := true) (by kernel_rfl) Z rfl rfl gd_t (fun hb W oW => r_fa (m' := 3) Tryz.underlying43 rfl Tryz.sizeOf35 rfl Z rfl rfl) rfl rfl ?_; clear Z az; intro az Z
    refine Pl.MSPG (b := true) (by kernel_rfl) Z rfl rfl gd_t (fun hb W oW => r_ld Tryz.isAgg35 Z (evg hb rfl) ((Blk.ca (Blk.k B82 oW)) 3 _ rfl)) rfl rfl ?_; clear Z az; intro az Z
    refine Pl.MSPG (b := true) (by kernel_rfl) Z rfl rfl gd_t (fun hb W oW => r_mv Z rfl) rfl rfl ?_; clear Z az; intro az Z
    have i84 : I64 (((k : Int) - 1)) := by unfold I64; omega
    refine Pl.MSPG (b := true) (by kernel_rfl) Z rfl rfl gd_t (fun hb W oW => r_subI (r := ((k : Int) - 1)) Z (evg hb rfl) rfl rfl i84) rfl rfl ?_; clear Z az; intro az Z
    refine Pl.MSPG (b := true) (by kernel_rfl) Z rfl rfl gd_t (fun hb W oW => r_max Z (evg hb rfl) rfl) rfl rfl ?_; clear Z az; intro az Z
    have z85 : (max (((k : Int) - 1)) (0)) = ((k - 1 : Nat) : Int) := by omega
    have hk86 : (k - 1) < (m.l).length := by omega
    have O92 : Only NoF w w80 := (Only.trans' (Only.trans' (Only.trans' (o_sg (Only.trans' o35 o53) s58 (size_only o35) (oneF_ge hg55)) o63) o66) o81)
    have h93 := (SliceOf.kp h1 O92 (fun _ _ h => h) (fun _ _ _ _ h => h))
    obtain ⟨m87, hm88, ok89, hA90⟩ := Row.el KRef h93 hk86
    have E91 : ∀ W, Only NoF w80 W → CA W (eA m.A 2 ((k - 1))) [.int .i64 (m87.h), .int .i64 (m87.n)] := Row.ce KRef h93 hm88 rfl
    refine Pl.MSPG (b := true) (by kernel_rfl) Z rfl rfl gd_t (fun hb W oW => r_ia (k := (k - 1)) (size := 2) Tryz.underlying35 Tryz.sizeOf59 Z (evg hb rfl) (evg hb rfl) z85 hk86 hA90) rfl rfl ?_; clear Z az; intro az Z
    refine Pl.MSPG (b := true) (by kernel_rfl) Z rfl rfl gd_t (fun hb W oW => r_ldA Tryz.isAgg59 Tryz.sizeOf59 Z (evg hb rfl) (E91 _ (Only.trans' (Only.refl NoF w80) oW)) rfl) rfl rfl ?_; clear Z az; intro az Z
    refine Pl.MSPG (b := true) (by kernel_rfl) Z rfl rfl gd_t (fun hb W oW => r_ldA Tryz.isAgg59 Tryz.sizeOf59 Z rfl (Blk.ca (Blk.k B83 oW)) rfl) rfl rfl ?_; clear Z az; intro az Z
    refine Pl.MSGV (v := .bool (refLt m87 m45)) Z rfl rfl gd_t rfl rfl (fun hb => (evs_c (evg hb rfl) (evs_c (evg hb rfl) rfl))) Tryz.call94 (fun hb => rLess_v _ m87 m45) rfl (fun w' o' => ⟨fun _ => o', (Only.trans (Only.refl NoF w80) o' (fun _ h => h.elim))⟩) fun w94 o95 => ?_; clear Z az; intro az Z
    refine Pl.MSPG (b := true) (by kernel_rfl) Z rfl rfl gd_t (fun hb W oW => r_not Z (evg hb rfl)) rfl rfl ?_; clear Z az; intro az Z
    refine Pl.MSP (b := true) (by kernel_rfl) (fun W oW => r_and Z rfl rfl rfl) Z rfl rfl ?_; clear Z az; intro az Z
    refine wpPl_nil ?_
    refine k79 _ _ ?_
    refine br Z rfl (fun hc96 => ?_) (fun hc96 => ?_)
    ·
     have p97 := of_decide_eq_true (and_t hc96).1
     have q98 : refLt m87 m45 = false := (nt_t (and_t hc96).2)
     refine wp_seq_k fun _ k99 => wp_region_lit ?_
     refine L (r_as Z rfl) Z rfl ?_; clear Z az; intro az Z
     refine k99 _ _ ?_
     refine wp_ret ?_
     show bodyPost _ _ _ .ret _ _
     refine ret_of (vs := [.bool (false)]) Z Tryz.results56 ⟨rfl, trivial⟩ ?_
     have O100 : Only NoF w w94 := (Only.trans' O92 o95)
     have hro := refR_bad3 (h := m.h) (n := m.n) hm88 hc96
     rw [right_of (m := m) (b := false) (headR hc19) hrf (by rw [refsOk_drop hm46, hro, Bool.false_and])]; exact ⟨rfl, O100⟩
    ·
     have d101 := hc96
     refine wp_skip ?_
     refine k42 _ _ ?_
     refine wp_region_lit ?_
     refine L (r_mv Z rfl) Z rfl ?_; clear Z az; intro az Z
     have i102 : I64 (((k : Int) + 1)) := by unfold I64; omega
     refine L (r_addI (r := ((k : Int) + 1)) Z rfl rfl rfl i102) Z rfl ?_; clear Z az; intro az Z
     refine L (r_as Z rfl) Z rfl ?_; clear Z az; intro az Z
     have hro := refR_ok hm46 hm88 hc70 hc96
     have O103 : Only NoF w w94 := (Only.trans' O92 o95)
     have B104 := (Blk.k B82 o95)
     exact ⟨_, (by omega), k + 1, rfl, Z.cut ⟨rfl, rfl, trivial⟩, (by omega), (by rw [hrf, refsOk_drop hm46, hro, Bool.true_and, prv_succ hm46]), O103, B104⟩
  ·
   have p105 := of_decide_eq_false hc40
   refine wp_exit ?_
   refine th_exit ?_
   refine th_exit ?_
   refine ib_hit ?_
   refine k31 _ _ (wp_seq_k fun _ k106 => wp_region_lit ?_)
   refine L (r_as Z rfl) Z rfl ?_; clear Z az; intro az Z
   refine k106 _ _ ?_
   refine wp_ret ?_
   show bodyPost _ _ _ .ret _ _
   refine ret_of (vs := [.bool (true)]) Z Tryz.results56 ⟨rfl, trivial⟩ ?_
   rw [right_of (m := m) (b := true) (headR hc19) hrf (by rw [List.drop_of_length_le (by omega)]; rfl)]; exact ⟨rfl, o35⟩
theorem rCheck_v_ {w : World} {l : List NM} {A1 : Option Addr} {c1 : Nat} (f1 : NotesV w w (.slice A1 l.length c1) l) : Calls Tryz.prog 40 [.slice A1 l.length c1].toArray w (Fix (.int .i64 (check l)) w) := by
 refine calls_start Tryz.func40 rfl rfl ?_
 intro az Z
 rw [Tryz.ntmps40] at Z
 refine wp_seq_k fun _ k1 => wp_region_lit ?_
 refine L (r_as Z rfl) Z rfl ?_; clear Z az; intro az Z
 refine k1 _ _ (wp_seq_k fun _ k2 => ?_)
 refine wp_seq_k fun _ k3 => wp_region_lit ?_
 refine L (r_mv Z rfl) Z rfl ?_; clear Z az; intro az Z
 refine L (r_lenL Tryz.underlying22 Z rfl) Z rfl ?_; clear Z az; intro az Z
 refine L (r_gtI Z rfl rfl) Z rfl ?_; clear Z az; intro az Z
 refine k3 _ _ ?_
 refine br Z rfl (fun hc4 => ?_) (fun hc4 => ?_)
 ·
  have p5 := of_decide_eq_true hc4
  refine wp_seq_k fun _ k6 => wp_region_lit ?_
  refine L (r_as Z rfl) Z rfl ?_; clear Z az; intro az Z
  refine k6 _ _ ?_
  refine wp_ret ?_
  show bodyPost _ _ _ .ret _ _
  refine ret_of (vs := [.int .i64 (6)]) Z Tryz.results40 ⟨rfl, trivial⟩ ?_
  rw [check_many hc4]; exact ⟨rfl, (Only.refl NoF w)⟩
 ·
  have p7 := of_decide_eq_false hc4
  refine wp_skip ?_
  refine k2 _ _ (wp_seq_k fun _ k8 => ?_)
  refine wp_seq_k fun _ k9 => wp_region_lit ?_
  refine L (r_as Z rfl) Z rfl ?_; clear Z az; intro az Z
  refine k9 _ _ ?_
  refine wp_block ?_
  refine wp_loop_m (fun mz az W => ∃ k : Nat, mz = l.length - k ∧ Fr 60 [(0, .slice A1 (l.length) c1), (3, .int .i64 ((k : Int)))] az ∧ (k ≤ l.length) ∧ (chk (hdH l) 0 0 l = chk (hdH l) k (prvD l k) (l.drop k)) ∧ Only NoF w W) ?_ ?_
  ·
   exact ⟨_, 0, rfl, Z.cut ⟨rfl, rfl, trivial⟩, Nat.zero_le _, rfl, (Only.refl NoF w)⟩
  clear Z az
  rintro mz az w10 ⟨k, hm12, Z, hk, hck, o11⟩
  refine wp_seq_k fun _ k13 => ?_
  refine wp_seq_k fun _ k14 => wp_region_lit ?_
  refine L (r_mv Z rfl) Z rfl ?_; clear Z az; intro az Z
  refine L (r_mv Z rfl) Z rfl ?_; clear Z az; intro az Z
  refine L (r_lenL Tryz.underlying22 Z rfl) Z rfl ?_; clear Z az; intro az Z
  refine L (r_ltI Z rfl rfl) Z rfl ?_; clear Z az; intro az Z
  refine k14 _ _ ?_
  refine br Z rfl (fun hc15 => ?_) (fun hc15 => ?_)
  ·
   have p16 := of_decide_eq_true hc15
   refine wp_skip ?_
   refine k13 _ _ (wp_seq_k fun _ k17 => ?_)
   refine wp_block ?_
   refine wp_seq_k fun _ k18 => ?_
   refine wp_seq_k fun _ k19 => wp_region_lit ?_
   refine L (r_mv Z rfl) Z rfl ?_; clear Z az; intro az Z
   refine L (r_mv Z rfl) Z rfl ?_; clear Z az; intro az Z
   have hk20 : k < (l).length := by omega
   have h26 := (SliceOf.kp f1 o11 (fun _ _ h => h) (fun _ _ _ _ h => h))
   obtain ⟨m21, hm22, ok23, hA24⟩ := Row.el (KNote w) h26 hk20
   have E25 : ∀ W, Only NoF w10 W → CA W (eA A1 5 (k)) [.int .i64 (m21.h), .int .i64 (m21.n), .int .i64 (m21.d), .slice m21.A (m21.l.length) m21.c, strV (m21.s)] := Row.ce (KNote w) h26 hm22 rfl
   refine L (r_ia (k := k) (size := 5) Tryz.underlying22 Tryz.sizeOf43 Z rfl rfl rfl hk20 hA24) Z rfl ?_; clear Z az; intro az Z
   refine L (r_ldA Tryz.isAgg43 Tryz.sizeOf43 Z rfl (E25 _ (Only.refl NoF w10)) rfl) Z rfl ?_; clear Z az; intro az Z
   have h27 := (SliceOf.kp ok23.2.2.2.1 o11 (fun _ _ h => h) (fun _ _ _ _ h => h))
   refine LCV (v := .bool (right m21)) Z rfl rfl Tryz.call56 (rRight_v h27) rfl fun w28 o29 => ?_; clear Z az; intro az Z
   refine L (r_not Z rfl) Z rfl ?_; clear Z az; intro az Z
   refine k19 _ _ ?_
   refine br Z rfl (fun hc30 => ?_) (fun hc30 => ?_)
   ·
    have q31 : right m21 = false := (nt_t hc30)
    refine wp_seq_k fun _ k32 => wp_region_lit ?_
    refine L (r_as Z rfl) Z rfl ?_; clear Z az; intro az Z
    refine k32 _ _ ?_
    refine wp_ret ?_
    show bodyPost _ _ _ .ret _ _
    refine ret_of (vs := [.int .i64 (1)]) Z Tryz.results40 ⟨rfl, trivial⟩ ?_
    have O33 : Only NoF w w28 := (Only.trans' o11 o29)
    rw [check_of hc4 hck]
    rw [chk_2 hm22 hc30]; exact ⟨rfl, O33⟩
   ·
    have q34 : right m21 = true := (nt_f hc30)
    refine wp_skip ?_
    refine k18 _ _ (wp_seq_k fun _ k35 => ?_)
    refine wp_seq_k fun _ k36 => ?_
    refine reg_q [(true, 0), (true, 1), (true, 2), (true, 3), (true, 4), (true, 5), (true, 6), (true, 7), (true, 8), (true, 9)] (by kernel_rfl) (by kernel_rfl) (fun _ _ _ _ _ h => h) fun w37 o38 => ?_
    refine M (r_mv Z rfl) Z rfl rfl ?_; clear Z az; intro az Z
    refine M (r_mv Z rfl) Z rfl rfl ?_; clear Z az; intro az Z
    refine M (r_ia (k := k) (size := 5) Tryz.underlying22 Tryz.sizeOf43 Z rfl rfl rfl hk20 hA24) Z rfl rfl ?_; clear Z az; intro az Z
    refine M (r_fa (m' := 0) Tryz.underlying43 rfl Tryz.sizeOf3 rfl Z rfl rfl) Z rfl rfl ?_; clear Z az; intro az Z
    have O39 : Only NoF w10 w37 := (Only.trans' o29 o38)
    refine M (r_ld Tryz.isAgg3 Z rfl ((E25 _ O39) 0 _ rfl)) Z rfl rfl ?_; clear Z az; intro az Z
    refine M (r_mv Z rfl) Z rfl rfl ?_; clear Z az; intro az Z
    have hk40 : 0 < (l).length := by omega
    have O46 : Only NoF w w37 := (Only.trans' (Only.trans' o11 o29) o38)
    have h47 := (SliceOf.kp f1 O46 (fun _ _ h => h) (fun _ _ _ _ h => h))
    obtain ⟨m41, hm42, ok43, hA44⟩ := Row.el (KNote w) h47 hk40
    have E45 : ∀ W, Only NoF w37 W → CA W (eA A1 5 (0)) [.int .i64 (m41.h), .int .i64 (m41.n), .int .i64 (m41.d), .slice m41.A (m41.l.length) m41.c, strV (m41.s)] := Row.ce (KNote w) h47 hm42 rfl
    refine M (r_ia (k := 0) (size := 5) Tryz.underlying22 Tryz.sizeOf43 Z rfl rfl rfl hk40 hA44) Z rfl rfl ?_; clear Z az; intro az Z
    refine M (r_fa (m' := 0) Tryz.underlying43 rfl Tryz.sizeOf3 rfl Z rfl rfl) Z rfl rfl ?_; clear Z az; intro az Z
    refine M (r_ld Tryz.isAgg3 Z rfl ((E45 _ (Only.refl NoF w37)) 0 _ rfl)) Z rfl rfl ?_; clear Z az; intro az Z
    refine M (r_neI Z rfl rfl) Z rfl rfl ?_; clear Z az; intro az Z
    refine wpMix_nil ?_
    refine k36 _ _ ?_
    refine br Z rfl (fun hc48 => ?_) (fun hc48 => ?_)
    ·
     have p49 := of_decide_eq_false (nt_t hc48)
     refine wp_seq_k fun _ k50 => wp_region_lit ?_
     refine L (r_as Z rfl) Z rfl ?_; clear Z az; intro az Z
     refine k50 _ _ ?_
     refine wp_ret ?_
     show bodyPost _ _ _ .ret _ _
     refine ret_of (vs := [.int .i64 (19)]) Z Tryz.results40 ⟨rfl, trivial⟩ ?_
     rw [check_of hc4 hck]
     rw [chk_3 hm22 hc30 (by rw [← hdH_of hm42]; exact hc48)]; exact ⟨rfl, O46⟩
    ·
     have p51 := of_decide_eq_true (nt_f hc48)
     refine wp_skip ?_
     refine k35 _ _ (wp_seq_k fun _ k52 => ?_)
     refine wp_seq_k fun _ k53 => wp_region_lit ?_
     refine L (r_mv Z rfl) Z rfl ?_; clear Z az; intro az Z
     refine L (r_mv Z rfl) Z rfl ?_; clear Z az; intro az Z
     refine L (r_ia (k := k) (size := 5) Tryz.underlying22 Tryz.sizeOf43 Z rfl rfl rfl hk20 hA24) Z rfl ?_; clear Z az; intro az Z
     refine L (r_fa (m' := 1) Tryz.underlying43 rfl Tryz.sizeOf3 rfl Z rfl rfl) Z rfl ?_; clear Z az; intro az Z
     refine L (r_ld Tryz.isAgg3 Z rfl ((E25 _ O39) 1 _ rfl)) Z rfl ?_; clear Z az; intro az Z
     refine L (r_mv Z rfl) Z rfl ?_; clear Z az; intro az Z
     refine L (r_gtI Z rfl rfl) Z rfl ?_; clear Z az; intro az Z
     refine k53 _ _ ?_
     refine br Z rfl (fun hc54 => ?_) (fun hc54 => ?_)
     ·
      have p55 := of_decide_eq_true hc54
      refine wp_seq_k fun _ k56 => wp_region_lit ?_
      refine L (r_as Z rfl) Z rfl ?_; clear Z az; intro az Z
      refine k56 _ _ ?_
      refine wp_ret ?_
      show bodyPost _ _ _ .ret _ _
      refine ret_of (vs := [.int .i64 (21)]) Z Tryz.results40 ⟨rfl, trivial⟩ ?_
      rw [check_of hc4 hck]
      rw [chk_4 hm22 hc30 (by rw [← hdH_of hm42]; exact hc48) hc54]; exact ⟨rfl, O46⟩
     ·
      have p57 := of_decide_eq_false hc54
      refine wp_skip ?_
      refine k52 _ _ (wp_seq_k fun _ k58 => ?_)
      refine wp_seq_k fun _ k59 => wp_region_lit ?_
      refine L (r_mv Z rfl) Z rfl ?_; clear Z az; intro az Z
      refine L (r_mv Z rfl) Z rfl ?_; clear Z az; intro az Z
      refine L (r_ia (k := k) (size := 5) Tryz.underlying22 Tryz.sizeOf43 Z rfl rfl rfl hk20 hA24) Z rfl ?_; clear Z az; intro az Z
      refine L (r_fa (m' := 1) Tryz.underlying43 rfl Tryz.sizeOf3 rfl Z rfl rfl) Z rfl ?_; clear Z az; intro az Z
      refine L (r_ld Tryz.isAgg3 Z rfl ((E25 _ O39) 1 _ rfl)) Z rfl ?_; clear Z az; intro az Z
      refine L (r_mv Z rfl) Z rfl ?_; clear Z az; intro az Z
      refine L (r_ltI Z rfl rfl) Z rfl ?_; clear Z az; intro az Z
      refine k59 _ _ ?_
      refine br Z rfl (fun hc60 => ?_) (fun hc60 => ?_)
      ·
       have p61 := of_decide_eq_true hc60
       refine wp_seq_k fun _ k62 => wp_region_lit ?_
       refine L (r_as Z rfl) Z rfl ?_; clear Z az; intro az Z
       refine k62 _ _ ?_
       refine wp_ret ?_
       show bodyPost _ _ _ .ret _ _
       refine ret_of (vs := [.int .i64 (5)]) Z Tryz.results40 ⟨rfl, trivial⟩ ?_
       rw [check_of hc4 hck]
       rw [chk_5 hm22 hc30 (by rw [← hdH_of hm42]; exact hc48) hc54 hc60]; exact ⟨rfl, O46⟩
      ·
       have p63 := of_decide_eq_false hc60
       refine wp_skip ?_
       refine k58 _ _ (wp_seq_k fun _ k64 => ?_)
       refine reg_q [(true, 0), (true, 1), (true, 2), (true, 3), (true, 4), (true, 5), (true, 6), (true, 7), (true, 8), (true, 9), (true, 10), (true, 11), (true, 12), (true, 13), (true, 14), (true, 15), (true, 16)] (by kernel_rfl) (by kernel_rfl) (fun _ _ _ _ _ h => h) fun w65 o66 => ?_
       refine M (r_mv Z rfl) Z rfl rfl ?_; clear Z az; intro az Z
       refine M (r_gtI Z rfl rfl) Z rfl rfl ?_; clear Z az; intro az Z
       refine M (r_mv Z rfl) Z rfl rfl ?_; clear Z az; intro az Z
       refine MG Z rfl rfl gd_t (fun hb => r_mv Z rfl) rfl rfl ?_; clear Z az; intro az Z
       refine MG Z rfl rfl gd_t (fun hb => r_mv Z rfl) rfl rfl ?_; clear Z az; intro az Z
       refine MG Z rfl rfl gd_t (fun hb => r_ia (k := k) (size := 5) Tryz.underlying22 Tryz.sizeOf43 Z (evg hb rfl) (evg hb rfl) rfl hk20 hA24) rfl rfl ?_; clear Z az; intro az Z
       refine MG Z rfl rfl gd_t (fun hb => r_fa (m' := 2) Tryz.underlying43 rfl Tryz.sizeOf3 rfl Z (evg hb rfl) rfl) rfl rfl ?_; clear Z az; intro az Z
       have O67 : Only NoF w10 w65 := (Only.trans' O39 o66)
       refine MG Z rfl rfl gd_t (fun hb => r_ld Tryz.isAgg3 Z (evg hb rfl) ((E25 _ O67) 2 _ rfl)) rfl rfl ?_; clear Z az; intro az Z
       refine MG Z rfl rfl gd_t (fun hb => r_mv Z rfl) rfl rfl ?_; clear Z az; intro az Z
       refine MG Z rfl rfl gd_t (fun hb => r_mv Z rfl) rfl rfl ?_; clear Z az; intro az Z
       have i68 : I64 (((k : Int) - 1)) := by unfold I64; omega
       refine MG Z rfl rfl gd_t (fun hb => r_subI (r := ((k : Int) - 1)) Z (evg hb rfl) rfl rfl i68) rfl rfl ?_; clear Z az; intro az Z
       refine MG Z rfl rfl gd_t (fun hb => r_max Z (evg hb rfl) rfl) rfl rfl ?_; clear Z az; intro az Z
       have z69 : (max (((k : Int) - 1)) (0)) = ((k - 1 : Nat) : Int) := by omega
       have hk70 : (k - 1) < (l).length := by omega
       have O76 : Only NoF w w65 := (Only.trans' O46 o66)
       have h77 := (SliceOf.kp f1 O76 (fun _ _ h => h) (fun _ _ _ _ h => h))
       obtain ⟨m71, hm72, ok73, hA74⟩ := Row.el (KNote w) h77 hk70
       have E75 : ∀ W, Only NoF w65 W → CA W (eA A1 5 ((k - 1))) [.int .i64 (m71.h), .int .i64 (m71.n), .int .i64 (m71.d), .slice m71.A (m71.l.length) m71.c, strV (m71.s)] := Row.ce (KNote w) h77 hm72 rfl
       refine MG Z rfl rfl gd_t (fun hb => r_ia (k := (k - 1)) (size := 5) Tryz.underlying22 Tryz.sizeOf43 Z (evg hb rfl) (evg hb rfl) z69 hk70 hA74) rfl rfl ?_; clear Z az; intro az Z
       refine MG Z rfl rfl gd_t (fun hb => r_fa (m' := 2) Tryz.underlying43 rfl Tryz.sizeOf3 rfl Z (evg hb rfl) rfl) rfl rfl ?_; clear Z az; intro az Z
       refine MG Z rfl rfl gd_t (fun hb => r_ld Tryz.isAgg3 Z (evg hb rfl) ((E75 _ (Only.refl NoF w65)) 2 _ rfl)) rfl rfl ?_; clear Z az; intro az Z
       refine MG Z rfl rfl gd_t (fun hb => r_ltI Z (evg hb rfl) (evg hb rfl)) rfl rfl ?_; clear Z az; intro az Z
       refine M (r_and Z rfl rfl rfl) Z rfl rfl ?_; clear Z az; intro az Z
       refine wpMix_nil ?_
       refine k64 _ _ ?_
       refine br Z rfl (fun hc78 => ?_) (fun hc78 => ?_)
       ·
        have p79 := of_decide_eq_true (and_t hc78).1
        have p80 := of_decide_eq_true (and_t hc78).2
        refine wp_seq_k fun _ k81 => wp_region_lit ?_
        refine L (r_as Z rfl) Z rfl ?_; clear Z az; intro az Z
        refine k81 _ _ ?_
        refine wp_ret ?_
        show bodyPost _ _ _ .ret _ _
        refine ret_of (vs := [.int .i64 (18)]) Z Tryz.results40 ⟨rfl, trivial⟩ ?_
        rw [check_of hc4 hck]
        rw [chk_6 hm22 hc30 (by rw [← hdH_of hm42]; exact hc48) hc54 hc60 (dayR hm72 (nt_f hc30) hc78)]; exact ⟨rfl, O76⟩
       ·
        have d82 := hc78
        refine wp_skip ?_
        refine k17 _ _ ?_
        refine wp_region_lit ?_
        refine L (r_mv Z rfl) Z rfl ?_; clear Z az; intro az Z
        have i83 : I64 (((k : Int) + 1)) := by unfold I64; omega
        refine L (r_addI (r := ((k : Int) + 1)) Z rfl rfl rfl i83) Z rfl ?_; clear Z az; intro az Z
        refine L (r_as Z rfl) Z rfl ?_; clear Z az; intro az Z
        exact ⟨_, (by omega), k + 1, rfl, Z.cut ⟨rfl, rfl, trivial⟩, (by omega), (by rw [hck, chk_next hm22 hc30 (by rw [← hdH_of hm42]; exact hc48) hc54 hc60 (dayR hm72 (nt_f hc30) hc78), prvD_succ hm22]), O76⟩
  ·
   have p84 := of_decide_eq_false hc15
   refine wp_exit ?_
   refine th_exit ?_
   refine th_exit ?_
   refine ib_hit ?_
   refine k8 _ _ (wp_seq_k fun _ k85 => wp_region_lit ?_)
   refine L (r_as Z rfl) Z rfl ?_; clear Z az; intro az Z
   refine k85 _ _ ?_
   refine wp_ret ?_
   show bodyPost _ _ _ .ret _ _
   refine ret_of (vs := [.int .i64 (0)]) Z Tryz.results40 ⟨rfl, trivial⟩ ?_
   rw [check_of hc4 hck]
   rw [List.drop_of_length_le (by omega)]; exact ⟨rfl, o11⟩
theorem rCheck_v {w : World} {v : Value} {l : List NM} (h : NotesV w w v l) : Calls Tryz.prog 40 #[v] w (Fix (.int .i64 (check l)) w) := by
 obtain ⟨A1, c1, rfl, _⟩ := SliceOf.shape h
 exact rCheck_v_ h
theorem rConvicts_v {w : World} {m m2 : NM} (h1 : RefsV w (.slice m.A m.l.length m.c) m.l) (h2 : RefsV w (.slice m2.A m2.l.length m2.c) m2.l) : Calls Tryz.prog 59 [.agg #[.int .i64 m.h, .int .i64 m.n, .int .i64 m.d, .slice m.A m.l.length m.c, strV m.s], .agg #[.int .i64 m2.h, .int .i64 m2.n, .int .i64 m2.d, .slice m2.A m2.l.length m2.c, strV m2.s]].toArray w (Fix (.bool (convicts m m2)) w) := by
 refine calls_start Tryz.func59 rfl rfl ?_
 intro az Z
 rw [Tryz.ntmps59] at Z
 refine wp_seq_k fun _ k1 => wp_region_lit ?_
 refine LBox Z rfl rfl rfl ?_
 clear Z az; intro g2 w3 hg6 hl7 o4 B5 az Z
 refine LBox Z rfl rfl rfl ?_
 clear Z az; intro g8 w9 hg12 hl13 o10 B11 az Z
 refine L (r_as Z rfl) Z rfl ?_; clear Z az; intro az Z
 refine k1 _ _ (wp_seq_k fun _ k14 => wp_region_lit ?_)
 have B15 := (Blk.k B5 o10)
 refine L (r_ldA Tryz.isAgg43 Tryz.sizeOf43 Z rfl (Blk.ca B15) rfl) Z rfl ?_; clear Z az; intro az Z
 have O16 : Only NoF w w9 := (Only.trans' o4 o10)
 have h17 := (SliceOf.kp h1 O16 (fun _ _ h => h) (fun _ _ _ _ h => h))
 refine LCV (v := .bool (right m)) Z rfl rfl Tryz.call56 (rRight_v h17) rfl fun w18 o19 => ?_; clear Z az; intro az Z
 refine L (r_mv Z rfl) Z rfl ?_; clear Z az; intro az Z
 have B20 := (Blk.k B11 o19)
 refine LG Z rfl rfl gd_t (fun hb => r_ldA Tryz.isAgg43 Tryz.sizeOf43 Z rfl (Blk.ca B20) rfl) rfl ?_; clear Z az; intro az Z
 have O21 : Only NoF w w18 := (Only.trans' O16 o19)
 have h22 := (SliceOf.kp h2 O21 (fun _ _ h => h) (fun _ _ _ _ h => h))
 refine LGV (v := .bool (right m2)) Z rfl rfl gd_t rfl (fun hb => (evs_c (evg hb rfl) rfl)) Tryz.call56 (fun hb => rRight_v h22) rfl fun w23 o24 => ?_; clear Z az; intro az Z
 refine L (r_and Z rfl rfl rfl) Z rfl ?_; clear Z az; intro az Z
 refine L (r_mv Z rfl) Z rfl ?_; clear Z az; intro az Z
 refine LG Z rfl rfl gd_t (fun hb => r_fa (m' := 0) Tryz.underlying43 rfl Tryz.sizeOf3 rfl Z rfl rfl) rfl ?_; clear Z az; intro az Z
 have B25 := (Blk.k (Blk.k B15 o19) o24)
 refine LG Z rfl rfl gd_t (fun hb => r_ld Tryz.isAgg3 Z (evg hb rfl) ((Blk.ca B25) 0 _ rfl)) rfl ?_; clear Z az; intro az Z
 refine LG Z rfl rfl gd_t (fun hb => r_fa (m' := 0) Tryz.underlying43 rfl Tryz.sizeOf3 rfl Z rfl rfl) rfl ?_; clear Z az; intro az Z
 have B26 := (Blk.k B20 o24)
 refine LG Z rfl rfl gd_t (fun hb => r_ld Tryz.isAgg3 Z (evg hb rfl) ((Blk.ca B26) 0 _ rfl)) rfl ?_; clear Z az; intro az Z
 refine LG Z rfl rfl gd_t (fun hb => r_eqI Z (evg hb rfl) (evg hb rfl)) rfl ?_; clear Z az; intro az Z
 refine L (r_and Z rfl rfl rfl) Z rfl ?_; clear Z az; intro az Z
 refine L (r_mv Z rfl) Z rfl ?_; clear Z az; intro az Z
 refine LG Z rfl rfl gd_t (fun hb => r_fa (m' := 1) Tryz.underlying43 rfl Tryz.sizeOf3 rfl Z rfl rfl) rfl ?_; clear Z az; intro az Z
 refine LG Z rfl rfl gd_t (fun hb => r_ld Tryz.isAgg3 Z (evg hb rfl) ((Blk.ca B25) 1 _ rfl)) rfl ?_; clear Z az; intro az Z
 refine LG Z rfl rfl gd_t (fun hb => r_fa (m' := 1) Tryz.underlying43 rfl Tryz.sizeOf3 rfl Z rfl rfl) rfl ?_; clear Z az; intro az Z
 refine LG Z rfl rfl gd_t (fun hb => r_ld Tryz.isAgg3 Z (evg hb rfl) ((Blk.ca B26) 1 _ rfl)) rfl ?_; clear Z az; intro az Z
 refine LG Z rfl rfl gd_t (fun hb => r_eqI Z (evg hb rfl) (evg hb rfl)) rfl ?_; clear Z az; intro az Z
 refine L (r_and Z rfl rfl rfl) Z rfl ?_; clear Z az; intro az Z
 refine L (r_mv Z rfl) Z rfl ?_; clear Z az; intro az Z
 refine LG Z rfl rfl gd_t (fun hb => r_ldA Tryz.isAgg43 Tryz.sizeOf43 Z rfl (Blk.ca B25) rfl) rfl ?_; clear Z az; intro az Z
 refine LG Z rfl rfl gd_t (fun hb => r_ldA Tryz.isAgg43 Tryz.sizeOf43 Z rfl (Blk.ca B26) rfl) rfl ?_; clear Z az; intro az Z
 have O27 : Only NoF w w23 := (Only.trans' O21 o24)
 have h28 := (SliceOf.kp h1 O27 (fun _ _ h => h) (fun _ _ _ _ h => h))
 have h29 := (SliceOf.kp h2 O27 (fun _ _ h => h) (fun _ _ _ _ h => h))
 refine LGV (v := .bool (same m m2)) Z rfl rfl gd_t rfl (fun hb => (evs_c (evg hb rfl) (evs_c (evg hb rfl) rfl))) Tryz.call33 (fun hb => rSame_v h28 h29) rfl fun w30 o31 => ?_; clear Z az; intro az Z
 refine LG Z rfl rfl gd_t (fun hb => r_not Z (evg hb rfl)) rfl ?_; clear Z az; intro az Z
 refine L (r_and Z rfl rfl rfl) Z rfl ?_; clear Z az; intro az Z
 refine L (r_as Z rfl) Z rfl ?_; clear Z az; intro az Z
 refine k14 _ _ ?_
 refine wp_ret ?_
 show bodyPost _ _ _ .ret _ _
 refine ret_of (vs := [.bool ((((((right m) && (right m2)) && (decide (m.h = m2.h))) && (decide (m.n = m2.n))) && (!(same m m2))))]) Z Tryz.results59 ⟨rfl, trivial⟩ ?_
 have O32 : Only NoF w w30 := (Only.trans' O27 o31)
 exact ⟨rfl, O32⟩
end
section
open Go.RowKit
theorem app_F {v v' : Value} {m k : Nat} (al : v'.ownBlock = v.ownBlock ∨ v'.ownBlock = some m) (h : ownF v' k) : ownF v k ∨ k = m := by
 unfold ownF at h ⊢
 rcases al with al | al
 · rw [al] at h; exact .inl h
 · rw [al] at h; injection h with h; exact .inr h.symm
theorem rEncode_v {w : World} {m : NM} (hk1 : (KNote w).ok m) : Calls Tryz.prog 95 [.agg #[.int .i64 m.h, .int .i64 m.n, .int .i64 m.d, .slice m.A m.l.length m.c, strV m.s]].toArray w (Fix (.tuple #[strV (if right m = true then encN m else []), .bool (right m)]) w) := by
 obtain ⟨_, _, _, h1, _⟩ := id hk1
 refine calls_start Tryz.func95 rfl rfl ?_
 intro az Z
 rw [Tryz.ntmps95] at Z
 refine wp_seq_k fun _ k1 => wp_region_lit ?_
 refine LBox Z rfl rfl rfl ?_
 clear Z az; intro g2 w3 hg6 hl7 o4 B5 az Z
 refine L (r_as Z rfl) Z rfl ?_; clear Z az; intro az Z
 refine L (r_as Z rfl) Z rfl ?_; clear Z az; intro az Z
 refine k1 _ _ (wp_seq_k fun _ k8 => ?_)
 refine wp_seq_k fun _ k9 => wp_region_lit ?_
 refine L (r_ldA Tryz.isAgg43 Tryz.sizeOf43 Z rfl (Blk.ca B5) rfl) Z rfl ?_; clear Z az; intro az Z
 have h10 := (SliceOf.kp h1 o4 (fun _ _ h => h) (fun _ _ _ _ h => h))
 refine LCV (v := .bool (right m)) Z rfl rfl Tryz.call56 (rRight_v h10) rfl fun w11 o12 => ?_; clear Z az; intro az Z
 refine L (r_not Z rfl) Z rfl ?_; clear Z az; intro az Z
 refine k9 _ _ ?_
 refine br Z rfl (fun hc13 => ?_) (fun hc13 => ?_)
 ·
  have q14 : right m = false := (nt_t hc13)
  refine wp_seq_k fun _ k15 => wp_region_lit ?_
  refine L (r_as Z rfl) Z rfl ?_; clear Z az; intro az Z
  refine L (r_as Z rfl) Z rfl ?_; clear Z az; intro az Z
  refine k15 _ _ ?_
  refine wp_ret ?_
  show bodyPost _ _ _ .ret _ _
  refine ret_of (vs := [strV ([]), .bool (false)]) Z Tryz.results95 ⟨rfl, rfl, trivial⟩ ?_
  have O16 : Only NoF w w11 := (Only.trans' o4 o12)
  rw [show right m = false from nt_t hc13]; exact ⟨rfl, O16⟩
 ·
  have q17 : right m = true := (nt_f hc13)
  have hrt : right m = true := nt_f hc13
  obtain ⟨hrl, hrs⟩ := right_len hrt
  refine wp_skip ?_
  refine k8 _ _ (wp_seq_k fun _ k18 => wp_region_lit ?_)
  refine L (r_as Z rfl) Z rfl ?_; clear Z az; intro az Z
  refine k18 _ _ (wp_seq_k fun _ k19 => ?_)
  refine wp_seq_k fun _ k20 => wp_region_lit ?_
  refine L (r_as Z rfl) Z rfl ?_; clear Z az; intro az Z
  refine k20 _ _ ?_
  refine wp_block ?_
  have B21 := (Blk.k B5 o12)
  refine wp_loop_m (fun mz az W => ∃ k : Nat, ∃ O : List Int, ∃ Ao : Option Addr, ∃ co : Nat, mz = m.l.length - k ∧ Fr 51 [(1, .pointer (some ((⟨g2, 0, none⟩ : Addr)))), (5, .int .i64 ((k : Int))), (4, .slice Ao (O.length) co)] az ∧ (k ≤ m.l.length) ∧ (O = flat2 (m.l.take k)) ∧ (∀ z ∈ O, KInt.ok z) ∧ Only NoF w W ∧ Blk W g2 43 [.int .i64 (m.h), .int .i64 (m.n), .int .i64 (m.d), .slice m.A (m.l.length) m.c, strV (m.s)].toArray ∧ W.ownsRow w.heap.size 3 1 (.slice Ao O.length co) O.length (List.flatMap KInt.cells O)) ?_ ?_
  ·
   have O22 : Only NoF w w11 := (Only.trans' o4 o12)
   exact ⟨_, 0, [], none, 0, rfl, Z.cut ⟨rfl, rfl, rfl, trivial⟩, Nat.zero_le _, rfl, (fun z hz => by cases hz), O22, B21, (World.ownsRow_nil _ _ _ _)⟩
  clear Z az
  rintro mz az w23 ⟨k, O, Ao, co, hm25, Z, hk, hO, okO, o24, B26, rO⟩
  have hOl : O.length = 2 * k := by rw [hO, flat2_len, List.length_take]; omega
  refine wp_seq_k fun _ k27 => ?_
  refine wp_seq_k fun _ k28 => wp_region_lit ?_
  refine L (r_mv Z rfl) Z rfl ?_; clear Z az; intro az Z
  refine L (r_fa (m' := 3) Tryz.underlying43 rfl Tryz.sizeOf35 rfl Z rfl rfl) Z rfl ?_; clear Z az; intro az Z
  refine L (r_ld Tryz.isAgg35 Z rfl ((Blk.ca B26) 3 _ rfl)) Z rfl ?_; clear Z az; intro az Z
  refine L (r_lenL Tryz.underlying35 Z rfl) Z rfl ?_; clear Z az; intro az Z
  refine L (r_ltI Z rfl rfl) Z rfl ?_; clear Z az; intro az Z
  refine k28 _ _ ?_
  refine br Z rfl (fun hc29 => ?_) (fun hc29 => ?_)
  ·
   have p30 := of_decide_eq_true hc29
   refine wp_skip ?_
   refine k27 _ _ (wp_seq_k fun _ k31 => ?_)
   refine wp_block ?_
   refine reg_p (ownF (.slice Ao (O.length) co)) 1 [7, 8, 15, 16] (.rd 0 (.rd 1 (.rd 2 (.rd 3 (.rd 4 (.rd 5 (.rd 6 (.rd 9 (.rd 10 (.rd 11 (.rd 12 (.rd 13 (.rd 14 (.fork 7 (.fork 8 (.ex 15 (.ex 16 (.rd 17 .nil))) 15 (.ex 8 (.ex 16 (.rd 17 .nil)))) 15 (.ex 7 (.ex 8 (.ex 16 (.rd 17 .nil)))))))))))))))))) (by kernel_rfl) (by kernel_rfl) (fun _ _ _ _ _ h => h) fun w32 o33 => ?_
   have B34 := (Blk.k B26 o33)
   refine Pl.MSP (b := false) (by kernel_rfl) (fun W oW => r_mv Z rfl) Z rfl rfl ?_; clear Z az; intro az Z
   refine Pl.MSP (b := false) (by kernel_rfl) (fun W oW => r_fa (m' := 3) Tryz.underlying43 rfl Tryz.sizeOf35 rfl Z rfl rfl) Z rfl rfl ?_; clear Z az; intro az Z
   have r35 := (ow_k rO o33)
   refine Pl.MSP (b := false) (by kernel_rfl) (fun W oW => r_ld Tryz.isAgg35 Z rfl ((Blk.ca (Blk.only B34 oW (ow_nb r35 B34 (by decide)))) 3 _ rfl)) Z rfl rfl ?_; clear Z az; intro az Z
   refine Pl.MSP (b := false) (by kernel_rfl) (fun W oW => r_mv Z rfl) Z rfl rfl ?_; clear Z az; intro az Z
   have hk36 : k < (m.l).length := by omega
   obtain ⟨m37, hm38, ok39, hA40⟩ := Row.el KRef h1 hk36
   have E41 : ∀ W, Only NoF w W → CA W (eA m.A 2 (k)) [.int .i64 (m37.h), .int .i64 (m37.n)] := Row.ce KRef h1 hm38 rfl
   refine Pl.MSP (b := false) (by kernel_rfl) (fun W oW => r_ia (k := k) (size := 2) Tryz.underlying35 Tryz.sizeOf59 Z rfl rfl rfl hk36 hA40) Z rfl rfl ?_; clear Z az; intro az Z
   refine Pl.MSP (b := false) (by kernel_rfl) (fun W oW => r_fa (m' := 0) Tryz.underlying59 rfl Tryz.sizeOf3 rfl Z rfl rfl) Z rfl rfl ?_; clear Z az; intro az Z
   have O42 : Only NoF w w32 := (Only.trans' o24 o33)
   refine Pl.MSP (b := false) (by kernel_rfl) (fun W oW => r_ld Tryz.isAgg3 Z rfl ((E41 _ (Only.trans O42 oW (fun k h => .inr ((fun k h => Nat.le_trans (Nat.le_refl _) ((ownF_ge rO) k h)) k h)))) 0 _ rfl)) Z rfl rfl ?_; clear Z az; intro az Z
   refine Pl.MSP (b := false) (by kernel_rfl) (fun W oW => r_fa (m' := 3) Tryz.underlying43 rfl Tryz.sizeOf35 rfl Z rfl rfl) Z rfl rfl ?_; clear Z az; intro az Z
   refine Pl.MSP (b := false) (by kernel_rfl) (fun W oW => r_ld Tryz.isAgg35 Z rfl ((Blk.ca (Blk.only B34 oW (ow_nb r35 B34 (by decide)))) 3 _ rfl)) Z rfl rfl ?_; clear Z az; intro az Z
   refine Pl.MSP (b := false) (by kernel_rfl) (fun W oW => r_mv Z rfl) Z rfl rfl ?_; clear Z az; intro az Z
   refine Pl.MSP (b := false) (by kernel_rfl) (fun W oW => r_ia (k := k) (size := 2) Tryz.underlying35 Tryz.sizeOf59 Z rfl rfl rfl hk36 hA40) Z rfl rfl ?_; clear Z az; intro az Z
   refine Pl.MSP (b := false) (by kernel_rfl) (fun W oW => r_fa (m' := 1) Tryz.underlying59 rfl Tryz.sizeOf3 rfl Z rfl rfl) Z rfl rfl ?_; clear Z az; intro az Z
   refine Pl.MSP (b := false) (by kernel_rfl) (fun W oW => r_ld Tryz.isAgg3 Z rfl ((E41 _ (Only.trans O42 oW (fun k h => .inr ((fun k h => Nat.le_trans (Nat.le_refl _) ((ownF_ge rO) k h)) k h)))) 1 _ rfl)) Z rfl rfl ?_; clear Z az; intro az Z
   refine wpPl_fork ?_ ?_
   ·
    obtain ⟨A43, w44, hw, hA, r45, o46⟩ := Row.made (w := w32) KInt (e := 3) ([m37.h] : List Int) (by simp only [List.length_cons, List.length_nil]; unfold maxLen; omega)
    refine Pl.MD (r_bs (z := .int .i64 (0)) (size := 1) (vs := [(0, .int .i64 (m37.h))]) (cs := List.flatMap KInt.cells [m37.h]) Tryz.underlying30 Tryz.sizeOf3 Tryz.zeroValue3 rfl (Fr.evalps Z rfl) (by kernel_rfl)) Z rfl rfl ?_ ?_
    · rw [← hw]; exact ⟨fun _ => o46, (Only.trans (Only.refl (ownF (.slice Ao (O.length) co)) w32) o46 (fun _ h => h.elim))⟩
    rw [← hw, ← hA]; clear Z az; intro az Z
    clear hw hA
    have ok47 : ∀ zq ∈ ([m37.h] : List Int), KInt.ok zq := by intro zq hx; simp only [List.mem_cons, List.not_mem_nil, or_false] at hx; rcases hx with rfl <;> first | exact ok39.1
    refine wpPl_fork ?_ ?_
    ·
     have r48 := (ow_k r35 o46)
     have h49 := Row.own KInt r45 ok47
     have h50 := SliceOf.pl h49
     have hb58 : (List.length (O) + List.length ([m37.h])) * 8 ≤ 140737488355328 := by (simp only [List.length_append, List.length_cons, List.length_nil]; omega)
     have O59 : Only NoF w w44 := (Only.trans' O42 o46)
     obtain ⟨A51, c52, w53, hr54, r55, o56, al57⟩ := Row.app (P := Tryz.prog) (l := O) (l2 := [m37.h]) KInt elemInt r48 h50 hb58 (by unfold maxLen; omega) (size_only O59)
     refine Pl.MD (r_app hr54 Z rfl rfl) Z rfl rfl ?_ ?_
     · exact ⟨fun h => absurd h (by decide), (Only.trans (Only.trans (Only.refl (ownF (.slice Ao (O.length) co)) w32) o46 (fun _ h => h.elim)) o56 (fun _ h => .inl h))⟩
     clear Z az; intro az Z
     have ok60 : ∀ zq ∈ (O ++ [m37.h]), KInt.ok zq := (fun x hx => (List.mem_append.1 hx).elim (okO x) ((Row.oks KInt h50) x))
     have h61 := Row.own KInt r55 ok60
     obtain ⟨A62, w63, hw, hA, r64, o65⟩ := Row.made (w := w53) KInt (e := 3) ([m37.n] : List Int) (by simp only [List.length_cons, List.length_nil]; unfold maxLen; omega)
     refine Pl.MD (r_bs (z := .int .i64 (0)) (size := 1) (vs := [(0, .int .i64 (m37.n))]) (cs := List.flatMap KInt.cells [m37.n]) Tryz.underlying30 Tryz.sizeOf3 Tryz.zeroValue3 rfl (Fr.evalps Z rfl) (by kernel_rfl)) Z rfl rfl ?_ ?_
     · rw [← hw]; exact ⟨fun h => absurd h (by decide), (Only.trans (Only.trans (Only.trans (Only.refl (ownF (.slice Ao (O.length) co)) w32) o46 (fun _ h => h.elim)) o56 (fun _ h => .inl h)) o65 (fun _ h => h.elim))⟩
     rw [← hw, ← hA]; clear Z az; intro az Z
     clear hw hA
     have ok66 : ∀ zq ∈ ([m37.n] : List Int), KInt.ok zq := by intro zq hx; simp only [List.mem_cons, List.not_mem_nil, or_false] at hx; rcases hx with rfl <;> first | exact ok39.2
     have r67 := (ow_k r55 o65)
     have h68 := Row.own KInt r64 ok66
     have h69 := SliceOf.pl h68
     have hb77 : (List.length ((O ++ [m37.h])) + List.length ([m37.n])) * 8 ≤ 140737488355328 := by (simp only [List.length_append, List.length_cons, List.length_nil]; omega)
     have O78 : Only NoF w w63 := (Only.trans' (o_sg O59 o56 (Nat.le_refl _) (ownF_ge rO)) o65)
     obtain ⟨A70, c71, w72, hr73, r74, o75, al76⟩ := Row.app (P := Tryz.prog) (l := (O ++ [m37.h])) (l2 := [m37.n]) KInt elemInt r67 h69 hb77 (by unfold maxLen; omega) (size_only O78)
     refine Pl.MD (r_app hr73 Z rfl rfl) Z rfl rfl ?_ ?_
     · exact ⟨fun h => absurd h (by decide), (Only.trans (Only.trans (Only.trans (Only.trans (Only.refl (ownF (.slice Ao (O.length) co)) w32) o46 (fun _ h => h.elim)) o56 (fun _ h => .inl h)) o65 (fun _ h => h.elim)) o75 (fun k h => (app_F al57 h).elim (fun h => .inl h) (fun h => .inr (by rw [h]; exact (size_only o46)))))⟩
     clear Z az; intro az Z
     have ok79 : ∀ zq ∈ ((O ++ [m37.h]) ++ [m37.n]), KInt.ok zq := (fun x hx => (List.mem_append.1 hx).elim (ok60 x) ((Row.oks KInt h69) x))
     have h80 := Row.own KInt r74 ok79
     refine Pl.MSP (b := false) (by kernel_rfl) (fun W oW => r_as Z rfl) Z rfl rfl ?_; clear Z az; intro az Z
     refine wpPl_nil ?_
     refine k31 _ _ ?_
     refine wp_region_lit ?_
     refine L (r_mv Z rfl) Z rfl ?_; clear Z az; intro az Z
     have i81 : I64 (((k : Int) + 1)) := by unfold I64; omega
     refine L (r_addI (r := ((k : Int) + 1)) Z rfl rfl rfl i81) Z rfl ?_; clear Z az; intro az Z
     refine L (r_as Z rfl) Z rfl ?_; clear Z az; intro az Z
     have O82 : Only NoF w w72 := (o_sg O78 o75 (Nat.le_refl _) (ownF_ge r55))
     have B83 := (Blk.only (Blk.k (Blk.only (Blk.k B34 o46) o56 (ow_nb r48 (Blk.k B34 o46) (by decide))) o65) o75 (ow_nb r67 (Blk.k (Blk.only (Blk.k B34 o46) o56 (ow_nb r48 (Blk.k B34 o46) (by decide))) o65) (by decide)))
     exact ⟨_, (by omega), k + 1, _, A70, c71, rfl, Z.cut ⟨rfl, rfl, rfl, trivial⟩, (by omega), (by rw [hO, take_succ_get hm38, flat2, flat2, List.flatMap_append, List.append_assoc]; rfl), ok79, O82, B83, (ow_low r74 (Nat.le_refl _))⟩
    ·
     obtain ⟨A84, w85, hw, hA, r86, o87⟩ := Row.made (w := w44) KInt (e := 3) ([m37.n] : List Int) (by simp only [List.length_cons, List.length_nil]; unfold maxLen; omega)
     refine Pl.MD (r_bs (z := .int .i64 (0)) (size := 1) (vs := [(0, .int .i64 (m37.n))]) (cs := List.flatMap KInt.cells [m37.n]) Tryz.underlying30 Tryz.sizeOf3 Tryz.zeroValue3 rfl (Fr.evalps Z rfl) (by kernel_rfl)) Z rfl rfl ?_ ?_
     · rw [← hw]; exact ⟨fun h => absurd h (by decide), (Only.trans (Only.trans (Only.refl (ownF (.slice Ao (O.length) co)) w32) o46 (fun _ h => h.elim)) o87 (fun _ h => h.elim))⟩
     rw [← hw, ← hA]; clear Z az; intro az Z
     clear hw hA
     have ok88 : ∀ zq ∈ ([m37.n] : List Int), KInt.ok zq := by intro zq hx; simp only [List.mem_cons, List.not_mem_nil, or_false] at hx; rcases hx with rfl <;> first | exact ok39.2
     have r89 := (ow_k (ow_k r35 o46) o87)
     have h90 := Row.own KInt r45 ok47
     have h91 := (SliceOf.kp h90 o87 (fun _ _ h => h) (fun _ _ _ _ h => h))
     have h92 := SliceOf.pl h91
     have hb100 : (List.length (O) + List.length ([m37.h])) * 8 ≤ 140737488355328 := by (simp only [List.length_append, List.length_cons, List.length_nil]; omega)
     have O101 : Only NoF w w85 := (Only.trans' (Only.trans' O42 o46) o87)
     obtain ⟨A93, c94, w95, hr96, r97, o98, al99⟩ := Row.app (P := Tryz.prog) (l := O) (l2 := [m37.h]) KInt elemInt r89 h92 hb100 (by unfold maxLen; omega) (size_only O101)
     refine Pl.MD (r_app hr96 Z rfl rfl) Z rfl rfl ?_ ?_
     · exact ⟨fun h => absurd h (by decide), (Only.trans (Only.trans (Only.trans (Only.refl (ownF (.slice Ao (O.length) co)) w32) o46 (fun _ h => h.elim)) o87 (fun _ h => h.elim)) o98 (fun _ h => .inl h))⟩
     clear Z az; intro az Z
     have ok102 : ∀ zq ∈ (O ++ [m37.h]), KInt.ok zq := (fun x hx => (List.mem_append.1 hx).elim (okO x) ((Row.oks KInt h92) x))
     have h103 := Row.own KInt r97 ok102
     have h104 := Row.own KInt r86 ok88
     have O105 : Only NoF w23 w44 := (Only.trans' o33 o46)
     have h106 := (SliceOf.kp h104 o98 (ge_F (ownF_lt rO) (size_only O105)) (fun _ _ _ _ h => h))
     have h107 := SliceOf.pl h106
     have hb115 : (List.length ((O ++ [m37.h])) + List.length ([m37.n])) * 8 ≤ 140737488355328 := by (simp only [List.length_append, List.length_cons, List.length_nil]; omega)
     have O116 : Only NoF w w95 := (o_sg O101 o98 (Nat.le_refl _) (ownF_ge rO))
     obtain ⟨A108, c109, w110, hr111, r112, o113, al114⟩ := Row.app (P := Tryz.prog) (l := (O ++ [m37.h])) (l2 := [m37.n]) KInt elemInt r97 h107 hb115 (by unfold maxLen; omega) (size_only O116)
     have O117 : Only NoF w32 w85 := (Only.trans' o46 o87)
     refine Pl.MD (r_app hr111 Z rfl rfl) Z rfl rfl ?_ ?_
     · exact ⟨fun h => absurd h (by decide), (Only.trans (Only.trans (Only.trans (Only.trans (Only.refl (ownF (.slice Ao (O.length) co)) w32) o46 (fun _ h => h.elim)) o87 (fun _ h => h.elim)) o98 (fun _ h => .inl h)) o113 (fun k h => (app_F al99 h).elim (fun h => .inl h) (fun h => .inr (by rw [h]; exact (size_only O117)))))⟩
     clear Z az; intro az Z
     have ok118 : ∀ zq ∈ ((O ++ [m37.h]) ++ [m37.n]), KInt.ok zq := (fun x hx => (List.mem_append.1 hx).elim (ok102 x) ((Row.oks KInt h107) x))
     have h119 := Row.own KInt r112 ok118
     refine Pl.MSP (b := false) (by kernel_rfl) (fun W oW => r_as Z rfl) Z rfl rfl ?_; clear Z az; intro az Z
     refine wpPl_nil ?_
     refine k31 _ _ ?_
     refine wp_region_lit ?_
     refine L (r_mv Z rfl) Z rfl ?_; clear Z az; intro az Z
     have i120 : I64 (((k : Int) + 1)) := by unfold I64; omega
     refine L (r_addI (r := ((k : Int) + 1)) Z rfl rfl rfl i120) Z rfl ?_; clear Z az; intro az Z
     refine L (r_as Z rfl) Z rfl ?_; clear Z az; intro az Z
     have O121 : Only NoF w w110 := (o_sg O116 o113 (Nat.le_refl _) (ownF_ge r97))
     have B122 := (Blk.only (Blk.only (Blk.k (Blk.k B34 o46) o87) o98 (ow_nb r89 (Blk.k (Blk.k B34 o46) o87) (by decide))) o113 (ow_nb r97 (Blk.only (Blk.k (Blk.k B34 o46) o87) o98 (ow_nb r89 (Blk.k (Blk.k B34 o46) o87) (by decide))) (by decide)))
     exact ⟨_, (by omega), k + 1, _, A108, c109, rfl, Z.cut ⟨rfl, rfl, rfl, trivial⟩, (by omega), (by rw [hO, take_succ_get hm38, flat2, flat2, List.flatMap_append, List.append_assoc]; rfl), ok118, O121, B122, (ow_low r112 (Nat.le_refl _))⟩
   ·
    obtain ⟨A123, w124, hw, hA, r125, o126⟩ := Row.made (w := w32) KInt (e := 3) ([m37.n] : List Int) (by simp only [List.length_cons, List.length_nil]; unfold maxLen; omega)
    refine Pl.MD (r_bs (z := .int .i64 (0)) (size := 1) (vs := [(0, .int .i64 (m37.n))]) (cs := List.flatMap KInt.cells [m37.n]) Tryz.underlying30 Tryz.sizeOf3 Tryz.zeroValue3 rfl (Fr.evalps Z rfl) (by kernel_rfl)) Z rfl rfl ?_ ?_
    · rw [← hw]; exact ⟨fun _ => o126, (Only.trans (Only.refl (ownF (.slice Ao (O.length) co)) w32) o126 (fun _ h => h.elim))⟩
    rw [← hw, ← hA]; clear Z az; intro az Z
    clear hw hA
    have ok127 : ∀ zq ∈ ([m37.n] : List Int), KInt.ok zq := by intro zq hx; simp only [List.mem_cons, List.not_mem_nil, or_false] at hx; rcases hx with rfl <;> first | exact ok39.2
    obtain ⟨A128, w129, hw, hA, r130, o131⟩ := Row.made (w := w124) KInt (e := 3) ([m37.h] : List Int) (by simp only [List.length_cons, List.length_nil]; unfold maxLen; omega)
    refine Pl.MD (r_bs (z := .int .i64 (0)) (size := 1) (vs := [(0, .int .i64 (m37.h))]) (cs := List.flatMap KInt.cells [m37.h]) Tryz.underlying30 Tryz.sizeOf3 Tryz.zeroValue3 rfl (Fr.evalps Z rfl) (by kernel_rfl)) Z rfl rfl ?_ ?_
    · rw [← hw]; exact ⟨fun h => absurd h (by decide), (Only.trans (Only.trans (Only.refl (ownF (.slice Ao (O.length) co)) w32) o126 (fun _ h => h.elim)) o131 (fun _ h => h.elim))⟩
    rw [← hw, ← hA]; clear Z az; intro az Z
    clear hw hA
    have ok132 : ∀ zq ∈ ([m37.h] : List Int), KInt.ok zq := by intro zq hx; simp only [List.mem_cons, List.not_mem_nil, or_false] at hx; rcases hx with rfl <;> first | exact ok39.1
    have r133 := (ow_k (ow_k r35 o126) o131)
    have h134 := Row.own KInt r130 ok132
    have h135 := SliceOf.pl h134
    have hb143 : (List.length (O) + List.length ([m37.h])) * 8 ≤ 140737488355328 := by (simp only [List.length_append, List.length_cons, List.length_nil]; omega)
    have O144 : Only NoF w w129 := (Only.trans' (Only.trans' O42 o126) o131)
    obtain ⟨A136, c137, w138, hr139, r140, o141, al142⟩ := Row.app (P := Tryz.prog) (l := O) (l2 := [m37.h]) KInt elemInt r133 h135 hb143 (by unfold maxLen; omega) (size_only O144)
    refine Pl.MD (r_app hr139 Z rfl rfl) Z rfl rfl ?_ ?_
    · exact ⟨fun h => absurd h (by decide), (Only.trans (Only.trans (Only.trans (Only.refl (ownF (.slice Ao (O.length) co)) w32) o126 (fun _ h => h.elim)) o131 (fun _ h => h.elim)) o141 (fun _ h => .inl h))⟩
    clear Z az; intro az Z
    have ok145 : ∀ zq ∈ (O ++ [m37.h]), KInt.ok zq := (fun x hx => (List.mem_append.1 hx).elim (okO x) ((Row.oks KInt h135) x))
    have h146 := Row.own KInt r140 ok145
    have h147 := Row.own KInt r125 ok127
    have h148 := (SliceOf.kp (SliceOf.kp h147 o131 (fun _ _ h => h) (fun _ _ _ _ h => h)) o141 (ge_F (ownF_lt rO) (size_only o33)) (fun _ _ _ _ h => h))
    have h149 := SliceOf.pl h148
    have hb157 : (List.length ((O ++ [m37.h])) + List.length ([m37.n])) * 8 ≤ 140737488355328 := by (simp only [List.length_append, List.length_cons, List.length_nil]; omega)
    have O158 : Only NoF w w138 := (o_sg O144 o141 (Nat.le_refl _) (ownF_ge rO))
    obtain ⟨A150, c151, w152, hr153, r154, o155, al156⟩ := Row.app (P := Tryz.prog) (l := (O ++ [m37.h])) (l2 := [m37.n]) KInt elemInt r140 h149 hb157 (by unfold maxLen; omega) (size_only O158)
    have O159 : Only NoF w32 w129 := (Only.trans' o126 o131)
    refine Pl.MD (r_app hr153 Z rfl rfl) Z rfl rfl ?_ ?_
    · exact ⟨fun h => absurd h (by decide), (Only.trans (Only.trans (Only.trans (Only.trans (Only.refl (ownF (.slice Ao (O.length) co)) w32) o126 (fun _ h => h.elim)) o131 (fun _ h => h.elim)) o141 (fun _ h => .inl h)) o155 (fun k h => (app_F al142 h).elim (fun h => .inl h) (fun h => .inr (by rw [h]; exact (size_only O159)))))⟩
    clear Z az; intro az Z
    have ok160 : ∀ zq ∈ ((O ++ [m37.h]) ++ [m37.n]), KInt.ok zq := (fun x hx => (List.mem_append.1 hx).elim (ok145 x) ((Row.oks KInt h149) x))
    have h161 := Row.own KInt r154 ok160
    refine Pl.MSP (b := false) (by kernel_rfl) (fun W oW => r_as Z rfl) Z rfl rfl ?_; clear Z az; intro az Z
    refine wpPl_nil ?_
    refine k31 _ _ ?_
    refine wp_region_lit ?_
    refine L (r_mv Z rfl) Z rfl ?_; clear Z az; intro az Z
    have i162 : I64 (((k : Int) + 1)) := by unfold I64; omega
    refine L (r_addI (r := ((k : Int) + 1)) Z rfl rfl rfl i162) Z rfl ?_; clear Z az; intro az Z
    refine L (r_as Z rfl) Z rfl ?_; clear Z az; intro az Z
    have O163 : Only NoF w w152 := (o_sg O158 o155 (Nat.le_refl _) (ownF_ge r140))
    have B164 := (Blk.only (Blk.only (Blk.k (Blk.k B34 o126) o131) o141 (ow_nb r133 (Blk.k (Blk.k B34 o126) o131) (by decide))) o155 (ow_nb r140 (Blk.only (Blk.k (Blk.k B34 o126) o131) o141 (ow_nb r133 (Blk.k (Blk.k B34 o126) o131) (by decide))) (by decide)))
    exact ⟨_, (by omega), k + 1, _, A150, c151, rfl, Z.cut ⟨rfl, rfl, rfl, trivial⟩, (by omega), (by rw [hO, take_succ_get hm38, flat2, flat2, List.flatMap_append, List.append_assoc]; rfl), ok160, O163, B164, (ow_low r154 (Nat.le_refl _))⟩
  ·
   have p165 := of_decide_eq_false hc29
   refine wp_exit ?_
   refine th_exit ?_
   refine th_exit ?_
   refine ib_hit ?_
   refine k19 _ _ (wp_seq_k fun _ k166 => ?_)
   refine reg_p NoF 5 [2, 5, 9, 12, 16] (.rd 0 (.rd 1 (.rd 3 (.rd 4 (.rd 7 (.rd 8 (.rd 11 (.rd 14 (.rd 15 (.ex 2 (.ex 5 (.rd 6 (.ex 9 (.rd 10 (.ex 12 (.rd 13 (.ex 16 (.rd 17 (.rd 18 (.rd 19 .nil)))))))))))))))))))) (by kernel_rfl) (by kernel_rfl) (fun _ _ _ _ _ h => h) fun w167 o168 => ?_
   have B169 := (Blk.k B26 o168)
   refine Pl.MSP (b := true) (by kernel_rfl) (fun W oW => r_fa (m' := 0) Tryz.underlying43 rfl Tryz.sizeOf3 rfl Z rfl rfl) Z rfl rfl ?_; clear Z az; intro az Z
   refine Pl.MSP (b := true) (by kernel_rfl) (fun W oW => r_ld Tryz.isAgg3 Z rfl ((Blk.ca (Blk.k B169 oW)) 0 _ rfl)) Z rfl rfl ?_; clear Z az; intro az Z
   refine Pl.MSP (b := true) (by kernel_rfl) (fun W oW => r_fa (m' := 1) Tryz.underlying43 rfl Tryz.sizeOf3 rfl Z rfl rfl) Z rfl rfl ?_; clear Z az; intro az Z
   refine Pl.MSP (b := true) (by kernel_rfl) (fun W oW => r_ld Tryz.isAgg3 Z rfl ((Blk.ca (Blk.k B169 oW)) 1 _ rfl)) Z rfl rfl ?_; clear Z az; intro az Z
   refine Pl.MSP (b := true) (by kernel_rfl) (fun W oW => r_fa (m' := 2) Tryz.underlying43 rfl Tryz.sizeOf3 rfl Z rfl rfl) Z rfl rfl ?_; clear Z az; intro az Z
   refine Pl.MSP (b := true) (by kernel_rfl) (fun W oW => r_ld Tryz.isAgg3 Z rfl ((Blk.ca (Blk.k B169 oW)) 2 _ rfl)) Z rfl rfl ?_; clear Z az; intro az Z
   refine Pl.MSP (b := true) (by kernel_rfl) (fun W oW => r_mv Z rfl) Z rfl rfl ?_; clear Z az; intro az Z
   refine Pl.MSP (b := true) (by kernel_rfl) (fun W oW => r_fa (m' := 4) Tryz.underlying43 rfl Tryz.sizeOf9 rfl Z rfl rfl) Z rfl rfl ?_; clear Z az; intro az Z
   refine Pl.MSP (b := true) (by kernel_rfl) (fun W oW => r_ld Tryz.isAgg9 Z rfl ((Blk.ca (Blk.k B169 oW)) 4 _ rfl)) Z rfl rfl ?_; clear Z az; intro az Z
   refine Pl.MSV (v := strV (Wr.numE m.h)) Z rfl rfl rfl Tryz.call118 (vNum_v _ m.h (wr_ok hk1.1)) rfl (fun w' o' => ⟨fun _ => o', (Only.trans (Only.refl NoF w167) o' (fun _ h => h.elim))⟩) fun w170 o171 => ?_; clear Z az; intro az Z
   refine Pl.MSV (v := strV (Wr.numE m.n)) Z rfl rfl rfl Tryz.call118 (vNum_v _ m.n (wr_ok hk1.2.1)) rfl (fun w' o' => ⟨fun _ => (Only.trans' o171 o'), (Only.trans (Only.trans (Only.refl NoF w167) o171 (fun _ h => h.elim)) o' (fun _ h => h.elim))⟩) fun w172 o173 => ?_; clear Z az; intro az Z
   refine Pl.MSP (b := true) (by kernel_rfl) (fun W oW => r_addS Z rfl rfl (by have e1 := numE_len (wr_ok hk1.1); have e2 := numE_len (wr_ok hk1.2.1); have e3 := numE_len (wr_ok hk1.2.2.1); have e4 := numsE_len (l := O) okO (by omega); have e5 := text_size2 (s := m.s) (by omega); (try simp only [List.length_append]); omega)) Z rfl rfl ?_; clear Z az; intro az Z
   refine Pl.MSV (v := strV (Wr.numE m.d)) Z rfl rfl rfl Tryz.call118 (vNum_v _ m.d (wr_ok hk1.2.2.1)) rfl (fun w' o' => ⟨fun _ => (Only.trans' (Only.trans' o171 o173) o'), (Only.trans (Only.trans (Only.trans (Only.refl NoF w167) o171 (fun _ h => h.elim)) o173 (fun _ h => h.elim)) o' (fun _ h => h.elim))⟩) fun w174 o175 => ?_; clear Z az; intro az Z
   refine Pl.MSP (b := true) (by kernel_rfl) (fun W oW => r_addS Z rfl rfl (by have e1 := numE_len (wr_ok hk1.1); have e2 := numE_len (wr_ok hk1.2.1); have e3 := numE_len (wr_ok hk1.2.2.1); have e4 := numsE_len (l := O) okO (by omega); have e5 := text_size2 (s := m.s) (by omega); (try simp only [List.length_append]); omega)) Z rfl rfl ?_; clear Z az; intro az Z
   have h176 := Row.own KInt rO okO
   have O177 : Only NoF w23 w174 := (Only.trans' (Only.trans' (Only.trans' o168 o171) o173) o175)
   have h178 := (SliceOf.kp h176 O177 (fun _ _ h => h) (fun _ _ _ _ h => h))
   have h179 := SliceOf.pl h178
   refine Pl.MSV (v := strV (Wr.numsE O)) Z rfl rfl rfl Tryz.call119 (vNums_v h179 (by omega) (ints_bytes (l := O) (Row.oks KInt h179) (by omega))) rfl (fun w' o' => ⟨fun _ => (Only.trans' (Only.trans' (Only.trans' o171 o173) o175) o'), (Only.trans (Only.trans (Only.trans (Only.trans (Only.refl NoF w167) o171 (fun _ h => h.elim)) o173 (fun _ h => h.elim)) o175 (fun _ h => h.elim)) o' (fun _ h => h.elim))⟩) fun w180 o181 => ?_; clear Z az; intro az Z
   refine Pl.MSP (b := true) (by kernel_rfl) (fun W oW => r_addS Z rfl rfl (by have e1 := numE_len (wr_ok hk1.1); have e2 := numE_len (wr_ok hk1.2.1); have e3 := numE_len (wr_ok hk1.2.2.1); have e4 := numsE_len (l := O) okO (by omega); have e5 := text_size2 (s := m.s) (by omega); (try simp only [List.length_append]); omega)) Z rfl rfl ?_; clear Z az; intro az Z
   refine Pl.MSV (v := strV (Wr.textE m.s)) Z rfl rfl rfl Tryz.call120 (vText_v _ m.s (by omega)) rfl (fun w' o' => ⟨fun _ => (Only.trans' (Only.trans' (Only.trans' (Only.trans' o171 o173) o175) o181) o'), (Only.trans (Only.trans (Only.trans (Only.trans (Only.trans (Only.refl NoF w167) o171 (fun _ h => h.elim)) o173 (fun _ h => h.elim)) o175 (fun _ h => h.elim)) o181 (fun _ h => h.elim)) o' (fun _ h => h.elim))⟩) fun w182 o183 => ?_; clear Z az; intro az Z
   refine Pl.MSP (b := true) (by kernel_rfl) (fun W oW => r_addS Z rfl rfl (by have e1 := numE_len (wr_ok hk1.1); have e2 := numE_len (wr_ok hk1.2.1); have e3 := numE_len (wr_ok hk1.2.2.1); have e4 := numsE_len (l := O) okO (by omega); have e5 := text_size2 (s := m.s) (by omega); (try simp only [List.length_append]); omega)) Z rfl rfl ?_; clear Z az; intro az Z
   refine Pl.MSP (b := true) (by kernel_rfl) (fun W oW => r_as Z rfl) Z rfl rfl ?_; clear Z az; intro az Z
   refine Pl.MSP (b := true) (by kernel_rfl) (fun W oW => r_as Z rfl) Z rfl rfl ?_; clear Z az; intro az Z
   refine wpPl_nil ?_
   refine k166 _ _ ?_
   refine wp_ret ?_
   show bodyPost _ _ _ .ret _ _
   refine ret_of (vs := [strV (Wr.numE m.h ++ Wr.numE m.n ++ Wr.numE m.d ++ Wr.numsE O ++ Wr.textE m.s), .bool (true)]) Z Tryz.results95 ⟨rfl, rfl, trivial⟩ ?_
   have O184 : Only NoF w w182 := (Only.trans' (Only.trans' (Only.trans' (Only.trans' (Only.trans' (Only.trans' o24 o168) o171) o173) o175) o181) o183)
   rw [List.take_of_length_le (by omega)] at hO
   rw [hrt, if_pos rfl]; unfold encN; rw [← hO]; exact ⟨rfl, O184⟩
end
section
open Go.RowKit
theorem build_Note3 (h n d : Int) (w : World) : (Instr.build 43 #[(0, .int .i64 h), (1, .int .i64 n), (2, .int .i64 d)]).run Tryz.prog w = .ok (.agg #[.int .i64 h, .int .i64 n, .int .i64 d, .slice none 0 0, strV []]) w := by kernel_rfl
end
end Go.Proofs.YtdcbjedkddgfkaaGreatDoor
