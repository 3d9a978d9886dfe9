/-
  The seal's reference: Right, Check, Convicts, walked. No condition.
  The seal's reference: Next, Encode, walked. Condition for Next: at most 1000 of each.
  The seal's reference: Decode, walked. Condition: at most 1,000,000 bytes.
-/
import Derived.Test.YtdegmpigkgkafaaGreatDoorSA
import Derived.Test.YtdegmpigkgkafaaGreatDoorWir5
import Derived.Test.YtdegmpigkgkafaaGreatDoorWR
import Derived.Test.YtdegmpigkgkafaaGreatDoorWW10
namespace Go.Proofs.YtdegmpigkgkafaaGreatDoor
set_option maxHeartbeats 4000000
set_option maxRecDepth 20000
set_option linter.unusedVariables false
set_option linter.unusedSimpArgs false
set_option linter.unusedSectionVars false
section
open Go.RowKit
def prv (l : List RM) : Nat → RM
 | 0 => ⟨-1, 0⟩
 | k + 1 => l.getD k ⟨-1, 0⟩
theorem prv_succ {l : List RM} {k : Nat} {r : RM} (h : l[k]? = some r) : prv l (k + 1) = r := by
 show l.getD k _ = r
 rw [List.getD_eq_getElem?_getD, h]; rfl
def prvD (l : List NM) : Nat → Int
 | 0 => 0
 | k + 1 => (l[k]?.map NM.d).getD 0
theorem prvD_succ {l : List NM} {k : Nat} {r : NM} (h : l[k]? = some r) : prvD l (k + 1) = r.d := by
 show (l[k]?.map NM.d).getD 0 = r.d
 rw [h]; rfl
section
variable {h n : Int} {l : List RM} {k : Nat} {p r : RM}
abbrev inH (x : Int) : Bool := decide (0 ≤ x) && decide (x ≤ 399)
theorem inH_eq {x : Int} : inH x = bel x 400 := by
 unfold inH bel
 rw [decide_eq_decide.2 (show x ≤ 399 ↔ x < 400 from ⟨fun h => by omega, fun h => by omega⟩)]
theorem refR_bad2 (h2 : (((!(decide (0 ≤ r.h) && decide (r.h ≤ 399))) || (!(decide (0 ≤ r.n) && decide (r.n ≤ 399)))) || (decide (r.h = h) && decide (n ≤ r.n))) = true) : refOk h n p r = false := by
 have e : (((!inH r.h) || (!inH r.n)) || (decide (r.h = h) && decide (n ≤ r.n))) = true := h2
 rw [inH_eq, inH_eq] at e
 unfold refOk kn
 rcases tf (bel r.h 400) with a | a
 · rw [a]; simp
 rcases tf (bel r.n 400) with b | b
 · rw [b]; simp
 rw [a, b] at e
 have c : (decide (r.h = h) && decide (n ≤ r.n)) = true := e
 rw [c]; simp
theorem refR_bad3 (hp : l[k - 1]? = some p) (h3 : (decide ((0 : Int) < (k : Int)) && (!refLt p r)) = true) : refOk h n (prv l k) r = false := by
 simp only [Bool.and_eq_true, decide_eq_true_eq, Bool.not_eq_true'] at h3
 obtain ⟨k, rfl⟩ : ∃ q, k = q + 1 := ⟨k - 1, by omega⟩
 rw [prv_succ (r := p) (by simpa using hp)]
 have e : refGt r.h r.n p.h p.n = refLt p r := by
  unfold refGt refLt
  rw [decide_eq_decide.2 (show r.h = p.h ↔ p.h = r.h from eq_comm)]
 unfold refOk
 rw [e, h3.2]; simp
theorem refR_ok (hr : l[k]? = some r) (hp : l[k - 1]? = some p) (h2 : (((!(decide (0 ≤ r.h) && decide (r.h ≤ 399))) || (!(decide (0 ≤ r.n) && decide (r.n ≤ 399)))) || (decide (r.h = h) && decide (n ≤ r.n))) = false) (h3 : (decide ((0 : Int) < (k : Int)) && (!refLt p r)) = false) : refOk h n (prv l k) r = true := by
 have e : (((!inH r.h) || (!inH r.n)) || (decide (r.h = h) && decide (n ≤ r.n))) = false := h2
 rw [inH_eq, inH_eq] at e
 have hg : refGt r.h r.n (prv l k).h (prv l k).n = true := by
  cases k with
  | zero =>
   have h0 : 0 ≤ r.h := by
    simp only [Bool.or_eq_false_iff, Bool.not_eq_false', Bool.and_eq_true, decide_eq_true_eq] at h2
    omega
   show refGt r.h r.n (-1) 0 = true
   unfold refGt
   rw [decide_eq_true (show (-1 : Int) < r.h by omega)]; rfl
  | succ k =>
   rw [prv_succ (r := p) (by simpa using hp)]
   have : refLt p r = true := by
    rcases tf (refLt p r) with h | h
    · rw [h, decide_eq_true (show (0 : Int) < ((k + 1 : Nat) : Int) by omega)] at h3; cases h3
    · exact h
   unfold refGt
   unfold refLt at this
   rwa [decide_eq_decide.2 (show r.h = p.h ↔ p.h = r.h from eq_comm)]
 simp only [Bool.or_eq_false_iff, Bool.not_eq_false'] at e
 unfold refOk kn
 rw [hg, e.1.1, e.1.2, e.2]; rfl
end
theorem headR {m : NM} {b : Bool} (h : (((((!(decide (0 ≤ m.h) && decide (m.h ≤ 399))) || (!(decide (0 ≤ m.n) && decide (m.n ≤ 399)))) || (!(decide (0 ≤ m.d) && decide (m.d ≤ 100000)))) || decide ((8000 : Int) < ((m.s.length : Nat) : Int))) || decide ((40 : Int) < ((m.l.length : Nat) : Int))) = b) : headBad m = b := by
 rw [← h]
 show ((((!(bel m.h 400 && bel m.n 400)) || (!bel m.d 100001)) || _) || _) = (((((!inH m.h) || (!inH m.n)) || _) || _) || _)
 rw [inH_eq, inH_eq, Bool.not_and]
 unfold bel
 rw [decide_eq_decide.2 (show m.d ≤ 100000 ↔ m.d < 100001 from ⟨fun h => by omega, fun h => by omega⟩)]
theorem right_d {m : NM} (h : right m = true) : 0 ≤ m.d := by
 unfold right headBad kn bel at h
 simp only [Bool.and_eq_true, Bool.not_eq_true', Bool.or_eq_false_iff, Bool.not_eq_false', decide_eq_true_eq] at h
 omega
theorem dayR {l : List NM} {k : Nat} {m p : NM} {b : Bool} (hp : l[k - 1]? = some p) (hr : right m = true) (h6 : (decide ((0 : Int) < (k : Int)) && decide (m.d < p.d)) = b) : decide (m.d < prvD l k) = b := by
 rw [← h6]
 cases k with
 | zero =>
  have := right_d hr
  show decide (m.d < 0) = _
  rw [decide_eq_false (by omega : ¬ m.d < 0)]; rfl
 | succ k =>
  rw [prvD_succ (r := p) (by simpa using hp), decide_eq_true (show (0 : Int) < ((k + 1 : Nat) : Int) by omega), Bool.true_and]
theorem rRight_v {w : World} {m : NM} (h1 : RefsV w (.slice m.A m.l.length m.c) m.l) : Calls Tryz.prog 63 [.agg #[.int .i64 m.h, .int .i64 m.n, .int .i64 m.d, .slice m.A m.l.length m.c, strV m.s]].toArray w (Fix (.bool (right m)) w) := by
 refine calls_start Tryz.func63 rfl rfl ?_
 intro az Z
 rw [Tryz.ntmps63] at Z
 refine wp_seq_k fun K1 hK1 => wp_region_lit ?_
 refine LBox Z rfl rfl rfl ?_
 clear Z az; intro g2 w3 hg6 hl7 o4 B5 az Z
 refine L (r_as Z rfl) Z rfl ?_; clear Z az; intro az Z
 refine hK1 _ _ (wp_seq_k fun K8 hK8 => ?_)
 refine wp_seq_k fun K9 hK9 => wp_region_lit ?_
 refine L (r_fa (m' := 0) Tryz.underlying51 rfl Tryz.sizeOf3 rfl Z rfl rfl) Z rfl ?_; clear Z az; intro az Z
 refine L (r_ld Tryz.isAgg3 Z rfl ((Blk.ca B5) 0 _ rfl)) Z rfl ?_; clear Z az; intro az Z
 refine LCV (v := .bool (((decide (0 ≤ m.h)) && (decide (m.h ≤ 399))))) Z rfl rfl Tryz.call99 (rin_v _ m.h 0 399) rfl fun w10 o11 => ?_; clear Z az; intro az Z
 refine L (r_not Z rfl) Z rfl ?_; clear Z az; intro az Z
 refine L (r_mv Z rfl) Z rfl ?_; clear Z az; intro az Z
 refine LG Z rfl rfl gd_f (fun hb => r_fa (m' := 1) Tryz.underlying51 rfl Tryz.sizeOf3 rfl Z rfl rfl) rfl ?_; clear Z az; intro az Z
 have B12 := (Blk.k B5 o11)
 refine LG Z rfl rfl gd_f (fun hb => r_ld Tryz.isAgg3 Z (evg hb rfl) ((Blk.ca B12) 1 _ rfl)) rfl ?_; clear Z az; intro az Z
 refine LGV (v := .bool (((decide (0 ≤ m.n)) && (decide (m.n ≤ 399))))) Z rfl rfl gd_f rfl (fun hb => (evs_c (evg hb rfl) (evs_c rfl (evs_c rfl rfl)))) Tryz.call99 (fun hb => rin_v _ m.n 0 399) rfl fun w13 o14 => ?_; clear Z az; intro az Z
 refine LG Z rfl rfl gd_f (fun hb => r_not Z (evg hb rfl)) rfl ?_; clear Z az; intro az Z
 refine L (r_or Z rfl rfl rfl) Z rfl ?_; clear Z az; intro az Z
 refine L (r_mv Z rfl) Z rfl ?_; clear Z az; intro az Z
 refine LG Z rfl rfl gd_f (fun hb => r_fa (m' := 2) Tryz.underlying51 rfl Tryz.sizeOf3 rfl Z rfl rfl) rfl ?_; clear Z az; intro az Z
 have B15 := (Blk.k B12 o14)
 refine LG Z rfl rfl gd_f (fun hb => r_ld Tryz.isAgg3 Z (evg hb rfl) ((Blk.ca B15) 2 _ rfl)) rfl ?_; clear Z az; intro az Z
 refine LGV (v := .bool (((decide (0 ≤ m.d)) && (decide (m.d ≤ 100000))))) Z rfl rfl gd_f rfl (fun hb => (evs_c (evg hb rfl) (evs_c rfl (evs_c rfl rfl)))) Tryz.call99 (fun hb => rin_v _ m.d 0 100000) rfl fun w16 o17 => ?_; clear Z az; intro az Z
 refine LG Z rfl rfl gd_f (fun hb => r_not Z (evg hb rfl)) rfl ?_; clear Z az; intro az Z
 refine L (r_or Z rfl rfl rfl) Z rfl ?_; clear Z az; intro az Z
 refine L (r_mv Z rfl) Z rfl ?_; clear Z az; intro az Z
 refine LG Z rfl rfl gd_f (fun hb => r_fa (m' := 4) Tryz.underlying51 rfl Tryz.sizeOf9 rfl Z rfl rfl) rfl ?_; clear Z az; intro az Z
 have B18 := (Blk.k B15 o17)
 refine LG Z rfl rfl gd_f (fun hb => r_ld Tryz.isAgg9 Z (evg hb rfl) ((Blk.ca B18) 4 _ rfl)) rfl ?_; clear Z az; intro az Z
 refine LG Z rfl rfl gd_f (fun hb => r_lenS Tryz.underlying9 Z (evg hb rfl)) rfl ?_; clear Z az; intro az Z
 refine LG Z rfl rfl gd_f (fun hb => r_gtI Z (evg hb rfl) rfl) rfl ?_; clear Z az; intro az Z
 refine L (r_or Z rfl rfl rfl) Z rfl ?_; clear Z az; intro az Z
 refine L (r_mv Z rfl) Z rfl ?_; clear Z az; intro az Z
 refine LG Z rfl rfl gd_f (fun hb => r_fa (m' := 3) Tryz.underlying51 rfl Tryz.sizeOf36 rfl Z rfl rfl) rfl ?_; clear Z az; intro az Z
 refine LG Z rfl rfl gd_f (fun hb => r_ld Tryz.isAgg36 Z (evg hb rfl) ((Blk.ca B18) 3 _ rfl)) rfl ?_; clear Z az; intro az Z
 refine LG Z rfl rfl gd_f (fun hb => r_lenL Tryz.underlying36 Z (evg hb rfl)) rfl ?_; clear Z az; intro az Z
 refine LG Z rfl rfl gd_f (fun hb => r_gtI Z (evg hb rfl) rfl) rfl ?_; clear Z az; intro az Z
 refine L (r_or Z rfl rfl rfl) Z rfl ?_; clear Z az; intro az Z
 refine hK9 _ _ ?_
 refine br Z rfl (fun hc19 => ?_) (fun hc19 => ?_)
 ·
  have d20 := hc19
  refine wp_seq_k fun K21 hK21 => wp_region_lit ?_
  refine L (r_as Z rfl) Z rfl ?_; clear Z az; intro az Z
  refine hK21 _ _ ?_
  refine wp_ret ?_
  show bodyPost _ _ _ .ret _ _
  refine ret_of (vs := [.bool (false)]) Z Tryz.results63 ⟨rfl, trivial⟩ ?_
  have O22 : Only NoF w w16 := (Only.trans' (Only.trans' (Only.trans' o4 o11) o14) o17)
  rw [right_bad (m := m) (headR hc19)]; exact ⟨rfl, O22⟩
 ·
  have p23 := of_decide_eq_true (and_t (nt_f (or_f (or_f (or_f (or_f hc19).1).1).1).1)).1
  have p24 := of_decide_eq_true (and_t (nt_f (or_f (or_f (or_f (or_f hc19).1).1).1).1)).2
  have p25 := of_decide_eq_true (and_t (nt_f (or_f (or_f (or_f (or_f hc19).1).1).1).2)).1
  have p26 := of_decide_eq_true (and_t (nt_f (or_f (or_f (or_f (or_f hc19).1).1).1).2)).2
  have p27 := of_decide_eq_true (and_t (nt_f (or_f (or_f (or_f hc19).1).1).2)).1
  have p28 := of_decide_eq_true (and_t (nt_f (or_f (or_f (or_f hc19).1).1).2)).2
  have p29 := of_decide_eq_false (or_f (or_f hc19).1).2
  have p30 := of_decide_eq_false (or_f hc19).2
  refine wp_skip ?_
  refine hK8 _ _ (wp_seq_k fun K31 hK31 => ?_)
  refine wp_seq_k fun K32 hK32 => wp_region_lit ?_
  refine L (r_as Z rfl) Z rfl ?_; clear Z az; intro az Z
  refine hK32 _ _ ?_
  refine wp_block ?_
  refine wp_loop_m (fun mz az W => ∃ k : Nat, mz = m.l.length - k ∧ Fr 83 [(1, .pointer (some ((⟨g2, 0, none⟩ : Addr)))), (3, .int .i64 ((k : Int)))] az ∧ (k ≤ m.l.length) ∧ (refsOk m.h m.n ⟨-1, 0⟩ m.l = refsOk m.h m.n (prv m.l k) (m.l.drop k)) ∧ Only NoF w W ∧ Blk W g2 51 [.int .i64 (m.h), .int .i64 (m.n), .int .i64 (m.d), .slice m.A (m.l.length) m.c, strV (m.s)].toArray) ?_ ?_
  ·
   have O33 : Only NoF w w16 := (Only.trans' (Only.trans' (Only.trans' o4 o11) o14) o17)
   exact ⟨_, 0, rfl, Z.cut ⟨rfl, rfl, trivial⟩, Nat.zero_le _, rfl, O33, B18⟩
  clear Z az
  rintro mz az w34 ⟨k, hm36, Z, hk, hrf, o35, B37⟩
  refine wp_seq_k fun K38 hK38 => ?_
  refine wp_seq_k fun K39 hK39 => wp_region_lit ?_
  refine L (r_mv Z rfl) Z rfl ?_; clear Z az; intro az Z
  refine L (r_fa (m' := 3) Tryz.underlying51 rfl Tryz.sizeOf36 rfl Z rfl rfl) Z rfl ?_; clear Z az; intro az Z
  refine L (r_ld Tryz.isAgg36 Z rfl ((Blk.ca B37) 3 _ rfl)) Z rfl ?_; clear Z az; intro az Z
  refine L (r_lenL Tryz.underlying36 Z rfl) Z rfl ?_; clear Z az; intro az Z
  refine L (r_ltI Z rfl rfl) Z rfl ?_; clear Z az; intro az Z
  refine hK39 _ _ ?_
  refine br Z rfl (fun hc40 => ?_) (fun hc40 => ?_)
  ·
   have p41 := of_decide_eq_true hc40
   refine wp_skip ?_
   refine hK38 _ _ (wp_seq_k fun K42 hK42 => ?_)
   refine wp_block ?_
   refine wp_seq_k fun K43 hK43 => wp_region_lit ?_
   refine L (r_fa (m' := 3) Tryz.underlying51 rfl Tryz.sizeOf36 rfl Z rfl rfl) Z rfl ?_; clear Z az; intro az Z
   refine L (r_ld Tryz.isAgg36 Z rfl ((Blk.ca B37) 3 _ rfl)) Z rfl ?_; clear Z az; intro az Z
   refine L (r_mv Z rfl) Z rfl ?_; clear Z az; intro az Z
   have hk44 : k < (m.l).length := by omega
   have h50 := (SliceOf.kp h1 o35 (fun _ _ h => h) (fun _ _ _ _ h => h))
   obtain ⟨m45, hm46, ok47, hA48⟩ := Row.el KRef h50 hk44
   have E49 : ∀ W, Only NoF w34 W → CA W (eA m.A 2 (k)) [.int .i64 (m45.h), .int .i64 (m45.n)] := Row.ce KRef h50 hm46 rfl
   refine L (r_ia (k := k) (size := 2) Tryz.underlying36 Tryz.sizeOf53 Z rfl rfl rfl hk44 hA48) Z rfl ?_; clear Z az; intro az Z
   refine L (r_ldA Tryz.isAgg53 Tryz.sizeOf53 Z rfl (E49 _ (Only.refl NoF w34)) rfl) Z rfl ?_; clear Z az; intro az Z
   refine LAl (v := .agg #[.int .i64 (0), .int .i64 (0)]) Tryz.zeroValue53 Z rfl rfl ?_
   clear Z az; intro g51 w52 hg55 hl56 o53 B54 az Z
   refine LSt (cs' := [.int .i64 (m45.h), .int .i64 (m45.n)]) Tryz.sizeOf53 Z rfl rfl rfl rfl rfl ⟨rfl, rfl, trivial⟩ B54 rfl rfl fun w57 s58 B59 => ?_
   refine hK43 _ _ (wp_seq_k fun K60 hK60 => ?_)
   refine wp_seq_k fun K61 hK61 => wp_region_lit ?_
   refine L (r_fa (m' := 0) Tryz.underlying53 rfl Tryz.sizeOf3 rfl Z rfl rfl) Z rfl ?_; clear Z az; intro az Z
   refine L (r_ld Tryz.isAgg3 Z rfl ((Blk.ca B59) 0 _ rfl)) Z rfl ?_; clear Z az; intro az Z
   refine LCV (v := .bool (((decide (0 ≤ m45.h)) && (decide (m45.h ≤ 399))))) Z rfl rfl Tryz.call99 (rin_v _ m45.h 0 399) rfl fun w62 o63 => ?_; clear Z az; intro az Z
   refine L (r_not Z rfl) Z rfl ?_; clear Z az; intro az Z
   refine L (r_mv Z rfl) Z rfl ?_; clear Z az; intro az Z
   refine LG Z rfl rfl gd_f (fun hb => r_fa (m' := 1) Tryz.underlying53 rfl Tryz.sizeOf3 rfl Z rfl rfl) rfl ?_; clear Z az; intro az Z
   have B64 := (Blk.k B59 o63)
   refine LG Z rfl rfl gd_f (fun hb => r_ld Tryz.isAgg3 Z (evg hb rfl) ((Blk.ca B64) 1 _ rfl)) rfl ?_; clear Z az; intro az Z
   refine LGV (v := .bool (((decide (0 ≤ m45.n)) && (decide (m45.n ≤ 399))))) Z rfl rfl gd_f rfl (fun hb => (evs_c (evg hb rfl) (evs_c rfl (evs_c rfl rfl)))) Tryz.call99 (fun hb => rin_v _ m45.n 0 399) rfl fun w65 o66 => ?_; clear Z az; intro az Z
   refine LG Z rfl rfl gd_f (fun hb => r_not Z (evg hb rfl)) rfl ?_; clear Z az; intro az Z
   refine L (r_or Z rfl rfl rfl) Z rfl ?_; clear Z az; intro az Z
   refine L (r_mv Z rfl) Z rfl ?_; clear Z az; intro az Z
   refine LG Z rfl rfl gd_f (fun hb => r_fa (m' := 0) Tryz.underlying53 rfl Tryz.sizeOf3 rfl Z rfl rfl) rfl ?_; clear Z az; intro az Z
   have B67 := (Blk.k B64 o66)
   refine LG Z rfl rfl gd_f (fun hb => r_ld Tryz.isAgg3 Z (evg hb rfl) ((Blk.ca B67) 0 _ rfl)) rfl ?_; clear Z az; intro az Z
   refine LG Z rfl rfl gd_f (fun hb => r_fa (m' := 0) Tryz.underlying51 rfl Tryz.sizeOf3 rfl Z rfl rfl) rfl ?_; clear Z az; intro az Z
   have ne68 : g2 ≠ g51 := (ne_of (Blk.lt B37) hg55)
   have B69 := (Blk.k (Blk.k (Blk.st (Blk.k B37 o53) s58 ne68) o63) o66)
   refine LG Z rfl rfl gd_f (fun hb => r_ld Tryz.isAgg3 Z (evg hb rfl) ((Blk.ca B69) 0 _ rfl)) rfl ?_; clear Z az; intro az Z
   refine LG Z rfl rfl gd_f (fun hb => r_eqI Z (evg hb rfl) (evg hb rfl)) rfl ?_; clear Z az; intro az Z
   refine LG Z rfl rfl gd_f (fun hb => r_mv Z (evg hb rfl)) rfl ?_; clear Z az; intro az Z
   refine LG Z rfl rfl gd_gt (fun hb => r_fa (m' := 1) Tryz.underlying53 rfl Tryz.sizeOf3 rfl Z rfl rfl) rfl ?_; clear Z az; intro az Z
   refine LG Z rfl rfl gd_gt (fun hb => r_ld Tryz.isAgg3 Z (evg hb rfl) ((Blk.ca B67) 1 _ rfl)) rfl ?_; clear Z az; intro az Z
   refine LG Z rfl rfl gd_gt (fun hb => r_fa (m' := 1) Tryz.underlying51 rfl Tryz.sizeOf3 rfl Z rfl rfl) rfl ?_; clear Z az; intro az Z
   refine LG Z rfl rfl gd_gt (fun hb => r_ld Tryz.isAgg3 Z (evg hb rfl) ((Blk.ca B69) 1 _ rfl)) rfl ?_; clear Z az; intro az Z
   refine LG Z rfl rfl gd_gt (fun hb => r_geI Z (evg hb rfl) (evg hb rfl)) rfl ?_; clear Z az; intro az Z
   refine LG Z rfl rfl gd_f (fun hb => r_and Z (evg hb rfl) (evgc hb rfl) rfl) rfl ?_; clear Z az; intro az Z
   refine L (r_or Z rfl rfl rfl) Z rfl ?_; clear Z az; intro az Z
   refine hK61 _ _ ?_
   refine br Z rfl (fun hc70 => ?_) (fun hc70 => ?_)
   ·
    have d71 := hc70
    refine wp_seq_k fun K72 hK72 => wp_region_lit ?_
    refine L (r_as Z rfl) Z rfl ?_; clear Z az; intro az Z
    refine hK72 _ _ ?_
    refine wp_ret ?_
    show bodyPost _ _ _ .ret _ _
    refine ret_of (vs := [.bool (false)]) Z Tryz.results63 ⟨rfl, trivial⟩ ?_
    have O73 : Only NoF w w65 := (Only.trans' (Only.trans' (o_sg (Only.trans' o35 o53) s58 (size_only o35) (oneF_ge hg55)) o63) o66)
    have hro := refR_bad2 (p := prv m.l k) hc70
    rw [right_of (m := m) (b := false) (headR hc19) hrf (by rw [refsOk_drop hm46, hro, Bool.false_and])]; exact ⟨rfl, O73⟩
   ·
    have p74 := of_decide_eq_true (and_t (nt_f (or_f (or_f hc70).1).1)).1
    have p75 := of_decide_eq_true (and_t (nt_f (or_f (or_f hc70).1).1)).2
    have p76 := of_decide_eq_true (and_t (nt_f (or_f (or_f hc70).1).2)).1
    have p77 := of_decide_eq_true (and_t (nt_f (or_f (or_f hc70).1).2)).2
    have d78 := (or_f hc70).2
    refine wp_skip ?_
    refine hK60 _ _ (wp_seq_k fun K79 hK79 => ?_)
    refine reg_p NoF 1 [11] (.rd 0 (.rd 1 (.rd 2 (.rd 3 (.rd 4 (.rd 5 (.rd 6 (.rd 7 (.rd 8 (.rd 9 (.rd 10 (.ex 11 (.rd 12 (.rd 13 .nil)))))))))))))) (by kernel_rfl) (by kernel_rfl) (fun _ _ _ _ _ h => h) fun w80 o81 => ?_
    have B82 := (Blk.k B69 o81)
    have B83 := (Blk.k B67 o81)
    refine Pl.MSP (b := true) (by kernel_rfl) (fun W oW => r_mv Z rfl) Z rfl rfl ?_; clear Z az; intro az Z
    refine Pl.MSP (b := true) (by kernel_rfl) (fun W oW => r_gtI Z rfl rfl) Z rfl rfl ?_; clear Z az; intro az Z
    refine Pl.MSP (b := true) (by kernel_rfl) (fun W oW => r_mv Z rfl) Z rfl rfl ?_; clear Z az; intro az Z
    refine Pl.MSPG (b := true) (by kernel_rfl) Z rfl rfl gd_t (fun hb W oW => r_fa (m' := 3) Tryz.underlying51 rfl Tryz.sizeOf36 rfl Z rfl rfl) rfl rfl ?_; clear Z az; intro az Z
    refine Pl.MSPG (b := true) (by kernel_rfl) Z rfl rfl gd_t (fun hb W oW => r_ld Tryz.isAgg36 Z (evg hb rfl) ((Blk.ca (Blk.k B82 oW)) 3 _ rfl)) rfl rfl ?_; clear Z az; intro az Z
    refine Pl.MSPG (b := true) (by kernel_rfl) Z rfl rfl gd_t (fun hb W oW => r_mv Z rfl) rfl rfl ?_; clear Z az; intro az Z
    have i84 : I64 (((k : Int) - 1)) := by unfold I64; omega
    refine Pl.MSPG (b := true) (by kernel_rfl) Z rfl rfl gd_t (fun hb W oW => r_subI (r := ((k : Int) - 1)) Z (evg hb rfl) rfl rfl i84) rfl rfl ?_; clear Z az; intro az Z
    refine Pl.MSPG (b := true) (by kernel_rfl) Z rfl rfl gd_t (fun hb W oW => r_max Z (evg hb rfl) rfl) rfl rfl ?_; clear Z az; intro az Z
    have z85 : (max (((k : Int) - 1)) (0)) = ((k - 1 : Nat) : Int) := by omega
    have hk86 : (k - 1) < (m.l).length := by omega
    have O92 : Only NoF w w80 := (Only.trans' (Only.trans' (Only.trans' (o_sg (Only.trans' o35 o53) s58 (size_only o35) (oneF_ge hg55)) o63) o66) o81)
    have h93 := (SliceOf.kp h1 O92 (fun _ _ h => h) (fun _ _ _ _ h => h))
    obtain ⟨m87, hm88, ok89, hA90⟩ := Row.el KRef h93 hk86
    have E91 : ∀ W, Only NoF w80 W → CA W (eA m.A 2 ((k - 1))) [.int .i64 (m87.h), .int .i64 (m87.n)] := Row.ce KRef h93 hm88 rfl
    refine Pl.MSPG (b := true) (by kernel_rfl) Z rfl rfl gd_t (fun hb W oW => r_ia (k := (k - 1)) (size := 2) Tryz.underlying36 Tryz.sizeOf53 Z (evg hb rfl) (evg hb rfl) z85 hk86 hA90) rfl rfl ?_; clear Z az; intro az Z
    refine Pl.MSPG (b := true) (by kernel_rfl) Z rfl rfl gd_t (fun hb W oW => r_ldA Tryz.isAgg53 Tryz.sizeOf53 Z (evg hb rfl) (E91 _ (Only.trans' (Only.refl NoF w80) oW)) rfl) rfl rfl ?_; clear Z az; intro az Z
    refine Pl.MSPG (b := true) (by kernel_rfl) Z rfl rfl gd_t (fun hb W oW => r_ldA Tryz.isAgg53 Tryz.sizeOf53 Z rfl (Blk.ca (Blk.k B83 oW)) rfl) rfl rfl ?_; clear Z az; intro az Z
    refine Pl.MSGV (v := .bool (refLt m87 m45)) Z rfl rfl gd_t rfl rfl (fun hb => (evs_c (evg hb rfl) (evs_c (evg hb rfl) rfl))) Tryz.call100 (fun hb => rLess_v _ m87 m45) rfl (fun w' o' => ⟨fun _ => o', (Only.trans (Only.refl NoF w80) o' (fun _ h => h.elim))⟩) fun w94 o95 => ?_; clear Z az; intro az Z
    refine Pl.MSPG (b := true) (by kernel_rfl) Z rfl rfl gd_t (fun hb W oW => r_not Z (evg hb rfl)) rfl rfl ?_; clear Z az; intro az Z
    refine Pl.MSP (b := true) (by kernel_rfl) (fun W oW => r_and Z rfl rfl rfl) Z rfl rfl ?_; clear Z az; intro az Z
    refine wpPl_nil ?_
    refine hK79 _ _ ?_
    refine br Z rfl (fun hc96 => ?_) (fun hc96 => ?_)
    ·
     have p97 := of_decide_eq_true (and_t hc96).1
     have q98 : refLt m87 m45 = false := (nt_t (and_t hc96).2)
     refine wp_seq_k fun K99 hK99 => wp_region_lit ?_
     refine L (r_as Z rfl) Z rfl ?_; clear Z az; intro az Z
     refine hK99 _ _ ?_
     refine wp_ret ?_
     show bodyPost _ _ _ .ret _ _
     refine ret_of (vs := [.bool (false)]) Z Tryz.results63 ⟨rfl, trivial⟩ ?_
     have O100 : Only NoF w w94 := (Only.trans' O92 o95)
     have hro := refR_bad3 (h := m.h) (n := m.n) hm88 hc96
     rw [right_of (m := m) (b := false) (headR hc19) hrf (by rw [refsOk_drop hm46, hro, Bool.false_and])]; exact ⟨rfl, O100⟩
    ·
     have d101 := hc96
     refine wp_skip ?_
     refine hK42 _ _ ?_
     refine wp_region_lit ?_
     refine L (r_mv Z rfl) Z rfl ?_; clear Z az; intro az Z
     have i102 : I64 (((k : Int) + 1)) := by unfold I64; omega
     refine L (r_addI (r := ((k : Int) + 1)) Z rfl rfl rfl i102) Z rfl ?_; clear Z az; intro az Z
     refine L (r_as Z rfl) Z rfl ?_; clear Z az; intro az Z
     have hro := refR_ok hm46 hm88 hc70 hc96
     have O103 : Only NoF w w94 := (Only.trans' O92 o95)
     have B104 := (Blk.k B82 o95)
     exact ⟨_, (by omega), k + 1, rfl, Z.cut ⟨rfl, rfl, trivial⟩, (by omega), (by rw [hrf, refsOk_drop hm46, hro, Bool.true_and, prv_succ hm46]), O103, B104⟩
  ·
   have p105 := of_decide_eq_false hc40
   refine wp_exit ?_
   refine th_exit ?_
   refine th_exit ?_
   refine ib_hit ?_
   refine hK31 _ _ (wp_seq_k fun K106 hK106 => wp_region_lit ?_)
   refine L (r_as Z rfl) Z rfl ?_; clear Z az; intro az Z
   refine hK106 _ _ ?_
   refine wp_ret ?_
   show bodyPost _ _ _ .ret _ _
   refine ret_of (vs := [.bool (true)]) Z Tryz.results63 ⟨rfl, trivial⟩ ?_
   rw [right_of (m := m) (b := true) (headR hc19) hrf (by rw [List.drop_of_length_le (by omega)]; rfl)]; exact ⟨rfl, o35⟩
theorem rCheck_v_ {w : World} {l : List NM} {A1 : Option Addr} {c1 : Nat} (f1 : NotesV w w (.slice A1 l.length c1) l) : Calls Tryz.prog 33 [.slice A1 l.length c1].toArray w (Fix (.int .i64 (check l)) w) := by
 refine calls_start Tryz.func33 rfl rfl ?_
 intro az Z
 rw [Tryz.ntmps33] at Z
 refine wp_seq_k fun K1 hK1 => wp_region_lit ?_
 refine L (r_as Z rfl) Z rfl ?_; clear Z az; intro az Z
 refine hK1 _ _ (wp_seq_k fun K2 hK2 => ?_)
 refine wp_seq_k fun K3 hK3 => wp_region_lit ?_
 refine L (r_mv Z rfl) Z rfl ?_; clear Z az; intro az Z
 refine L (r_lenL Tryz.underlying44 Z rfl) Z rfl ?_; clear Z az; intro az Z
 refine L (r_gtI Z rfl rfl) Z rfl ?_; clear Z az; intro az Z
 refine hK3 _ _ ?_
 refine br Z rfl (fun hc4 => ?_) (fun hc4 => ?_)
 ·
  have p5 := of_decide_eq_true hc4
  refine wp_seq_k fun K6 hK6 => wp_region_lit ?_
  refine L (r_as Z rfl) Z rfl ?_; clear Z az; intro az Z
  refine hK6 _ _ ?_
  refine wp_ret ?_
  show bodyPost _ _ _ .ret _ _
  refine ret_of (vs := [.int .i64 (6)]) Z Tryz.results33 ⟨rfl, trivial⟩ ?_
  rw [check_many hc4]; exact ⟨rfl, (Only.refl NoF w)⟩
 ·
  have p7 := of_decide_eq_false hc4
  refine wp_skip ?_
  refine hK2 _ _ (wp_seq_k fun K8 hK8 => ?_)
  refine wp_seq_k fun K9 hK9 => wp_region_lit ?_
  refine L (r_as Z rfl) Z rfl ?_; clear Z az; intro az Z
  refine hK9 _ _ ?_
  refine wp_block ?_
  refine wp_loop_m (fun mz az W => ∃ k : Nat, mz = l.length - k ∧ Fr 60 [(0, .slice A1 (l.length) c1), (3, .int .i64 ((k : Int)))] az ∧ (k ≤ l.length) ∧ (chk (hdH l) 0 0 l = chk (hdH l) k (prvD l k) (l.drop k)) ∧ Only NoF w W) ?_ ?_
  ·
   exact ⟨_, 0, rfl, Z.cut ⟨rfl, rfl, trivial⟩, Nat.zero_le _, rfl, (Only.refl NoF w)⟩
  clear Z az
  rintro mz az w10 ⟨k, hm12, Z, hk, hck, o11⟩
  refine wp_seq_k fun K13 hK13 => ?_
  refine wp_seq_k fun K14 hK14 => wp_region_lit ?_
  refine L (r_mv Z rfl) Z rfl ?_; clear Z az; intro az Z
  refine L (r_mv Z rfl) Z rfl ?_; clear Z az; intro az Z
  refine L (r_lenL Tryz.underlying44 Z rfl) Z rfl ?_; clear Z az; intro az Z
  refine L (r_ltI Z rfl rfl) Z rfl ?_; clear Z az; intro az Z
  refine hK14 _ _ ?_
  refine br Z rfl (fun hc15 => ?_) (fun hc15 => ?_)
  ·
   have p16 := of_decide_eq_true hc15
   refine wp_skip ?_
   refine hK13 _ _ (wp_seq_k fun K17 hK17 => ?_)
   refine wp_block ?_
   refine wp_seq_k fun K18 hK18 => ?_
   refine wp_seq_k fun K19 hK19 => wp_region_lit ?_
   refine L (r_mv Z rfl) Z rfl ?_; clear Z az; intro az Z
   refine L (r_mv Z rfl) Z rfl ?_; clear Z az; intro az Z
   have hk20 : k < (l).length := by omega
   have h26 := (SliceOf.kp f1 o11 (fun _ _ h => h) (fun _ _ _ _ h => h))
   obtain ⟨m21, hm22, ok23, hA24⟩ := Row.el (KNote w) h26 hk20
   have E25 : ∀ W, Only NoF w10 W → CA W (eA A1 5 (k)) [.int .i64 (m21.h), .int .i64 (m21.n), .int .i64 (m21.d), .slice m21.A (m21.l.length) m21.c, strV (m21.s)] := Row.ce (KNote w) h26 hm22 rfl
   refine L (r_ia (k := k) (size := 5) Tryz.underlying44 Tryz.sizeOf51 Z rfl rfl rfl hk20 hA24) Z rfl ?_; clear Z az; intro az Z
   refine L (r_ldA Tryz.isAgg51 Tryz.sizeOf51 Z rfl (E25 _ (Only.refl NoF w10)) rfl) Z rfl ?_; clear Z az; intro az Z
   have h27 := (SliceOf.kp ok23.2.2.2.1 o11 (fun _ _ h => h) (fun _ _ _ _ h => h))
   refine LCV (v := .bool (right m21)) Z rfl rfl Tryz.call63 (rRight_v h27) rfl fun w28 o29 => ?_; clear Z az; intro az Z
   refine L (r_not Z rfl) Z rfl ?_; clear Z az; intro az Z
   refine hK19 _ _ ?_
   refine br Z rfl (fun hc30 => ?_) (fun hc30 => ?_)
   ·
    have q31 : right m21 = false := (nt_t hc30)
    refine wp_seq_k fun K32 hK32 => wp_region_lit ?_
    refine L (r_as Z rfl) Z rfl ?_; clear Z az; intro az Z
    refine hK32 _ _ ?_
    refine wp_ret ?_
    show bodyPost _ _ _ .ret _ _
    refine ret_of (vs := [.int .i64 (1)]) Z Tryz.results33 ⟨rfl, trivial⟩ ?_
    have O33 : Only NoF w w28 := (Only.trans' o11 o29)
    rw [check_of hc4 hck]
    rw [chk_2 hm22 hc30]; exact ⟨rfl, O33⟩
   ·
    have q34 : right m21 = true := (nt_f hc30)
    refine wp_skip ?_
    refine hK18 _ _ (wp_seq_k fun K35 hK35 => ?_)
    refine wp_seq_k fun K36 hK36 => ?_
    refine reg_q [(true, 0), (true, 1), (true, 2), (true, 3), (true, 4), (true, 5), (true, 6), (true, 7), (true, 8), (true, 9)] (by kernel_rfl) (by kernel_rfl) (fun _ _ _ _ _ h => h) fun w37 o38 => ?_
    refine M (r_mv Z rfl) Z rfl rfl ?_; clear Z az; intro az Z
    refine M (r_mv Z rfl) Z rfl rfl ?_; clear Z az; intro az Z
    refine M (r_ia (k := k) (size := 5) Tryz.underlying44 Tryz.sizeOf51 Z rfl rfl rfl hk20 hA24) Z rfl rfl ?_; clear Z az; intro az Z
    refine M (r_fa (m' := 0) Tryz.underlying51 rfl Tryz.sizeOf3 rfl Z rfl rfl) Z rfl rfl ?_; clear Z az; intro az Z
    have O39 : Only NoF w10 w37 := (Only.trans' o29 o38)
    refine M (r_ld Tryz.isAgg3 Z rfl ((E25 _ O39) 0 _ rfl)) Z rfl rfl ?_; clear Z az; intro az Z
    refine M (r_mv Z rfl) Z rfl rfl ?_; clear Z az; intro az Z
    have hk40 : 0 < (l).length := by omega
    have O46 : Only NoF w w37 := (Only.trans' (Only.trans' o11 o29) o38)
    have h47 := (SliceOf.kp f1 O46 (fun _ _ h => h) (fun _ _ _ _ h => h))
    obtain ⟨m41, hm42, ok43, hA44⟩ := Row.el (KNote w) h47 hk40
    have E45 : ∀ W, Only NoF w37 W → CA W (eA A1 5 (0)) [.int .i64 (m41.h), .int .i64 (m41.n), .int .i64 (m41.d), .slice m41.A (m41.l.length) m41.c, strV (m41.s)] := Row.ce (KNote w) h47 hm42 rfl
    refine M (r_ia (k := 0) (size := 5) Tryz.underlying44 Tryz.sizeOf51 Z rfl rfl rfl hk40 hA44) Z rfl rfl ?_; clear Z az; intro az Z
    refine M (r_fa (m' := 0) Tryz.underlying51 rfl Tryz.sizeOf3 rfl Z rfl rfl) Z rfl rfl ?_; clear Z az; intro az Z
    refine M (r_ld Tryz.isAgg3 Z rfl ((E45 _ (Only.refl NoF w37)) 0 _ rfl)) Z rfl rfl ?_; clear Z az; intro az Z
    refine M (r_neI Z rfl rfl) Z rfl rfl ?_; clear Z az; intro az Z
    refine wpMix_nil ?_
    refine hK36 _ _ ?_
    refine br Z rfl (fun hc48 => ?_) (fun hc48 => ?_)
    ·
     have p49 := of_decide_eq_false (nt_t hc48)
     refine wp_seq_k fun K50 hK50 => wp_region_lit ?_
     refine L (r_as Z rfl) Z rfl ?_; clear Z az; intro az Z
     refine hK50 _ _ ?_
     refine wp_ret ?_
     show bodyPost _ _ _ .ret _ _
     refine ret_of (vs := [.int .i64 (19)]) Z Tryz.results33 ⟨rfl, trivial⟩ ?_
     rw [check_of hc4 hck]
     rw [chk_3 hm22 hc30 (by rw [← hdH_of hm42]; exact hc48)]; exact ⟨rfl, O46⟩
    ·
     have p51 := of_decide_eq_true (nt_f hc48)
     refine wp_skip ?_
     refine hK35 _ _ (wp_seq_k fun K52 hK52 => ?_)
     refine wp_seq_k fun K53 hK53 => wp_region_lit ?_
     refine L (r_mv Z rfl) Z rfl ?_; clear Z az; intro az Z
     refine L (r_mv Z rfl) Z rfl ?_; clear Z az; intro az Z
     refine L (r_ia (k := k) (size := 5) Tryz.underlying44 Tryz.sizeOf51 Z rfl rfl rfl hk20 hA24) Z rfl ?_; clear Z az; intro az Z
     refine L (r_fa (m' := 1) Tryz.underlying51 rfl Tryz.sizeOf3 rfl Z rfl rfl) Z rfl ?_; clear Z az; intro az Z
     refine L (r_ld Tryz.isAgg3 Z rfl ((E25 _ O39) 1 _ rfl)) Z rfl ?_; clear Z az; intro az Z
     refine L (r_mv Z rfl) Z rfl ?_; clear Z az; intro az Z
     refine L (r_gtI Z rfl rfl) Z rfl ?_; clear Z az; intro az Z
     refine hK53 _ _ ?_
     refine br Z rfl (fun hc54 => ?_) (fun hc54 => ?_)
     ·
      have p55 := of_decide_eq_true hc54
      refine wp_seq_k fun K56 hK56 => wp_region_lit ?_
      refine L (r_as Z rfl) Z rfl ?_; clear Z az; intro az Z
      refine hK56 _ _ ?_
      refine wp_ret ?_
      show bodyPost _ _ _ .ret _ _
      refine ret_of (vs := [.int .i64 (21)]) Z Tryz.results33 ⟨rfl, trivial⟩ ?_
      rw [check_of hc4 hck]
      rw [chk_4 hm22 hc30 (by rw [← hdH_of hm42]; exact hc48) hc54]; exact ⟨rfl, O46⟩
     ·
      have p57 := of_decide_eq_false hc54
      refine wp_skip ?_
      refine hK52 _ _ (wp_seq_k fun K58 hK58 => ?_)
      refine wp_seq_k fun K59 hK59 => wp_region_lit ?_
      refine L (r_mv Z rfl) Z rfl ?_; clear Z az; intro az Z
      refine L (r_mv Z rfl) Z rfl ?_; clear Z az; intro az Z
      refine L (r_ia (k := k) (size := 5) Tryz.underlying44 Tryz.sizeOf51 Z rfl rfl rfl hk20 hA24) Z rfl ?_; clear Z az; intro az Z
      refine L (r_fa (m' := 1) Tryz.underlying51 rfl Tryz.sizeOf3 rfl Z rfl rfl) Z rfl ?_; clear Z az; intro az Z
      refine L (r_ld Tryz.isAgg3 Z rfl ((E25 _ O39) 1 _ rfl)) Z rfl ?_; clear Z az; intro az Z
      refine L (r_mv Z rfl) Z rfl ?_; clear Z az; intro az Z
      refine L (r_ltI Z rfl rfl) Z rfl ?_; clear Z az; intro az Z
      refine hK59 _ _ ?_
      refine br Z rfl (fun hc60 => ?_) (fun hc60 => ?_)
      ·
       have p61 := of_decide_eq_true hc60
       refine wp_seq_k fun K62 hK62 => wp_region_lit ?_
       refine L (r_as Z rfl) Z rfl ?_; clear Z az; intro az Z
       refine hK62 _ _ ?_
       refine wp_ret ?_
       show bodyPost _ _ _ .ret _ _
       refine ret_of (vs := [.int .i64 (5)]) Z Tryz.results33 ⟨rfl, trivial⟩ ?_
       rw [check_of hc4 hck]
       rw [chk_5 hm22 hc30 (by rw [← hdH_of hm42]; exact hc48) hc54 hc60]; exact ⟨rfl, O46⟩
      ·
       have p63 := of_decide_eq_false hc60
       refine wp_skip ?_
       refine hK58 _ _ (wp_seq_k fun K64 hK64 => ?_)
       refine reg_q [(true, 0), (true, 1), (true, 2), (true, 3), (true, 4), (true, 5), (true, 6), (true, 7), (true, 8), (true, 9), (true, 10), (true, 11), (true, 12), (true, 13), (true, 14), (true, 15), (true, 16)] (by kernel_rfl) (by kernel_rfl) (fun _ _ _ _ _ h => h) fun w65 o66 => ?_
       refine M (r_mv Z rfl) Z rfl rfl ?_; clear Z az; intro az Z
       refine M (r_gtI Z rfl rfl) Z rfl rfl ?_; clear Z az; intro az Z
       refine M (r_mv Z rfl) Z rfl rfl ?_; clear Z az; intro az Z
       refine MG Z rfl rfl gd_t (fun hb => r_mv Z rfl) rfl rfl ?_; clear Z az; intro az Z
       refine MG Z rfl rfl gd_t (fun hb => r_mv Z rfl) rfl rfl ?_; clear Z az; intro az Z
       refine MG Z rfl rfl gd_t (fun hb => r_ia (k := k) (size := 5) Tryz.underlying44 Tryz.sizeOf51 Z (evg hb rfl) (evg hb rfl) rfl hk20 hA24) rfl rfl ?_; clear Z az; intro az Z
       refine MG Z rfl rfl gd_t (fun hb => r_fa (m' := 2) Tryz.underlying51 rfl Tryz.sizeOf3 rfl Z (evg hb rfl) rfl) rfl rfl ?_; clear Z az; intro az Z
       have O67 : Only NoF w10 w65 := (Only.trans' O39 o66)
       refine MG Z rfl rfl gd_t (fun hb => r_ld Tryz.isAgg3 Z (evg hb rfl) ((E25 _ O67) 2 _ rfl)) rfl rfl ?_; clear Z az; intro az Z
       refine MG Z rfl rfl gd_t (fun hb => r_mv Z rfl) rfl rfl ?_; clear Z az; intro az Z
       refine MG Z rfl rfl gd_t (fun hb => r_mv Z rfl) rfl rfl ?_; clear Z az; intro az Z
       have i68 : I64 (((k : Int) - 1)) := by unfold I64; omega
       refine MG Z rfl rfl gd_t (fun hb => r_subI (r := ((k : Int) - 1)) Z (evg hb rfl) rfl rfl i68) rfl rfl ?_; clear Z az; intro az Z
       refine MG Z rfl rfl gd_t (fun hb => r_max Z (evg hb rfl) rfl) rfl rfl ?_; clear Z az; intro az Z
       have z69 : (max (((k : Int) - 1)) (0)) = ((k - 1 : Nat) : Int) := by omega
       have hk70 : (k - 1) < (l).length := by omega
       have O76 : Only NoF w w65 := (Only.trans' O46 o66)
       have h77 := (SliceOf.kp f1 O76 (fun _ _ h => h) (fun _ _ _ _ h => h))
       obtain ⟨m71, hm72, ok73, hA74⟩ := Row.el (KNote w) h77 hk70
       have E75 : ∀ W, Only NoF w65 W → CA W (eA A1 5 ((k - 1))) [.int .i64 (m71.h), .int .i64 (m71.n), .int .i64 (m71.d), .slice m71.A (m71.l.length) m71.c, strV (m71.s)] := Row.ce (KNote w) h77 hm72 rfl
       refine MG Z rfl rfl gd_t (fun hb => r_ia (k := (k - 1)) (size := 5) Tryz.underlying44 Tryz.sizeOf51 Z (evg hb rfl) (evg hb rfl) z69 hk70 hA74) rfl rfl ?_; clear Z az; intro az Z
       refine MG Z rfl rfl gd_t (fun hb => r_fa (m' := 2) Tryz.underlying51 rfl Tryz.sizeOf3 rfl Z (evg hb rfl) rfl) rfl rfl ?_; clear Z az; intro az Z
       refine MG Z rfl rfl gd_t (fun hb => r_ld Tryz.isAgg3 Z (evg hb rfl) ((E75 _ (Only.refl NoF w65)) 2 _ rfl)) rfl rfl ?_; clear Z az; intro az Z
       refine MG Z rfl rfl gd_t (fun hb => r_ltI Z (evg hb rfl) (evg hb rfl)) rfl rfl ?_; clear Z az; intro az Z
       refine M (r_and Z rfl rfl rfl) Z rfl rfl ?_; clear Z az; intro az Z
       refine wpMix_nil ?_
       refine hK64 _ _ ?_
       refine br Z rfl (fun hc78 => ?_) (fun hc78 => ?_)
       ·
        have p79 := of_decide_eq_true (and_t hc78).1
        have p80 := of_decide_eq_true (and_t hc78).2
        refine wp_seq_k fun K81 hK81 => wp_region_lit ?_
        refine L (r_as Z rfl) Z rfl ?_; clear Z az; intro az Z
        refine hK81 _ _ ?_
        refine wp_ret ?_
        show bodyPost _ _ _ .ret _ _
        refine ret_of (vs := [.int .i64 (18)]) Z Tryz.results33 ⟨rfl, trivial⟩ ?_
        rw [check_of hc4 hck]
        rw [chk_6 hm22 hc30 (by rw [← hdH_of hm42]; exact hc48) hc54 hc60 (dayR hm72 (nt_f hc30) hc78)]; exact ⟨rfl, O76⟩
       ·
        have d82 := hc78
        refine wp_skip ?_
        refine hK17 _ _ ?_
        refine wp_region_lit ?_
        refine L (r_mv Z rfl) Z rfl ?_; clear Z az; intro az Z
        have i83 : I64 (((k : Int) + 1)) := by unfold I64; omega
        refine L (r_addI (r := ((k : Int) + 1)) Z rfl rfl rfl i83) Z rfl ?_; clear Z az; intro az Z
        refine L (r_as Z rfl) Z rfl ?_; clear Z az; intro az Z
        exact ⟨_, (by omega), k + 1, rfl, Z.cut ⟨rfl, rfl, trivial⟩, (by omega), (by rw [hck, chk_next hm22 hc30 (by rw [← hdH_of hm42]; exact hc48) hc54 hc60 (dayR hm72 (nt_f hc30) hc78), prvD_succ hm22]), O76⟩
  ·
   have p84 := of_decide_eq_false hc15
   refine wp_exit ?_
   refine th_exit ?_
   refine th_exit ?_
   refine ib_hit ?_
   refine hK8 _ _ (wp_seq_k fun K85 hK85 => wp_region_lit ?_)
   refine L (r_as Z rfl) Z rfl ?_; clear Z az; intro az Z
   refine hK85 _ _ ?_
   refine wp_ret ?_
   show bodyPost _ _ _ .ret _ _
   refine ret_of (vs := [.int .i64 (0)]) Z Tryz.results33 ⟨rfl, trivial⟩ ?_
   rw [check_of hc4 hck]
   rw [List.drop_of_length_le (by omega)]; exact ⟨rfl, o11⟩
theorem rCheck_v {w : World} {v : Value} {l : List NM} (h : NotesV w w v l) : Calls Tryz.prog 33 #[v] w (Fix (.int .i64 (check l)) w) := by
 obtain ⟨A1, c1, rfl, _⟩ := SliceOf.shape h
 exact rCheck_v_ h
end
section
open Go.RowKit
theorem app_F {v v' : Value} {m k : Nat} (al : v'.ownBlock = v.ownBlock ∨ v'.ownBlock = some m) (h : ownF v' k) : ownF v k ∨ k = m := by
 unfold ownF at h ⊢
 rcases al with al | al
 · rw [al] at h; exact .inl h
 · rw [al] at h; injection h with h; exact .inr h.symm
theorem rNext_v_ {w : World} {l : List NM} {A1 : Option Addr} {c1 : Nat} (f1 : NotesV w w (.slice A1 l.length c1) l) {q : List RM} {A2 : Option Addr} {c2 : Nat} (f2 : RefsV w (.slice A2 q.length c2) q) {h d : Int} (hh : I64 h) (hd : I64 d) {t : Str} (ht : t.length ≤ maxLen) (hl : l.length ≤ 1000) (hq : q.length ≤ 1000) : Calls Tryz.prog 40 [.slice A1 l.length c1, .int .i64 h, .int .i64 d, .slice A2 q.length c2, strV t].toArray w (NextTo l h d q t w) := by
 refine calls_start Tryz.func40 rfl rfl ?_
 intro az Z
 rw [Tryz.ntmps40] at Z
 refine wp_seq_k fun K1 hK1 => wp_region_lit ?_
 refine LAl (v := .agg #[.int .i64 (0), .int .i64 (0), .int .i64 (0), .slice none (0) 0, strV ([])]) Tryz.zeroValue51 Z rfl rfl ?_
 clear Z az; intro g2 w3 hg6 hl7 o4 B5 az Z
 refine L (r_as Z rfl) Z rfl ?_; clear Z az; intro az Z
 refine hK1 _ _ (wp_seq_k fun K8 hK8 => wp_region_lit ?_)
 refine L (r_mv Z rfl) Z rfl ?_; clear Z az; intro az Z
 refine L (r_mv Z rfl) Z rfl ?_; clear Z az; intro az Z
 refine L (r_lenL Tryz.underlying44 Z rfl) Z rfl ?_; clear Z az; intro az Z
 refine L (r_mv Z rfl) Z rfl ?_; clear Z az; intro az Z
 obtain ⟨A9, w10, hw, hA, r11, o12⟩ := made0 (w := w3) (e := 53) (size := 2)
 refine L (r_bs0 Tryz.underlying36 Tryz.sizeOf53) Z rfl ?_
 rw [← hw, ← hA]; clear Z az; intro az Z
 clear hw hA
 refine L (r_mv Z rfl) Z rfl ?_; clear Z az; intro az Z
 have O13 : Only NoF w w10 := (Only.trans' o4 o12)
 have h14 := (SliceOf.kp f2 O13 (fun _ _ h => h) (fun _ _ _ _ h => h))
 have hb22 : (List.length (([] : List RM)) + List.length (q)) * 16 ≤ 140737488355328 := by (simp only [List.length_append, List.length_cons, List.length_nil]; omega)
 obtain ⟨A15, c16, w17, hr18, r19, o20, al21⟩ := Row.app (P := Tryz.prog) (l := ([] : List RM)) (l2 := q) KRef elemRef r11 h14 hb22 (by unfold maxLen; omega) (size_only o12)
 simp only [List.nil_append, List.append_nil] at hr18 r19 al21
 refine L (r_app hr18 Z rfl rfl) Z rfl ?_; clear Z az; intro az Z
 have ok23 : ∀ zq ∈ q, KRef.ok zq := (Row.oks KRef h14)
 have h24 := Row.own KRef r19 ok23
 refine L (r_mv Z rfl) Z rfl ?_; clear Z az; intro az Z
 refine L (r_bd (v := .agg #[.int .i64 (h), .int .i64 (((l.length : Nat) : Int)), .int .i64 (d), .slice A15 ((q).length) c16, strV (t)]) (build_Note5 _ _ _ _ _ _ _) Z rfl) Z rfl ?_; clear Z az; intro az Z
 refine LAl (v := .agg #[.int .i64 (0), .int .i64 (0), .int .i64 (0), .slice none (0) 0, strV ([])]) Tryz.zeroValue51 Z rfl rfl ?_
 clear Z az; intro g25 w26 hg29 hl30 o27 B28 az Z
 refine LSt (cs' := [.int .i64 (h), .int .i64 (((l.length : Nat) : Int)), .int .i64 (d), .slice A15 ((q).length) c16, strV (t)]) Tryz.sizeOf51 Z rfl rfl rfl rfl rfl ⟨rfl, rfl, rfl, rfl, rfl, trivial⟩ B28 rfl rfl fun w31 s32 B33 => ?_
 refine hK8 _ _ (wp_seq_k fun K34 hK34 => ?_)
 have O36 : Only NoF w w17 := (o_sg O13 o20 (size_only o4) (ownF_ge r11))
 have O37 : Only NoF w w31 := (o_sg (Only.trans' (o_sg O13 o20 (size_only o4) (ownF_ge r11)) o27) s32 (size_only O36) (oneF_ge hg29))
 have h38 := (SliceOf.kp f1 O37 (fun _ _ h => h) (fun _ _ _ _ h => h))
 have f35 := notes_up h38 O37
 have r40 := (ow_only (ow_k r19 o27) s32 (fun k hk => lt_F (oneF_ge hg29) (Nat.le_refl _) k (ownF_lt r19 k hk)))
 have hr39 := SliceOf.pl (Row.own KRef r40 ok23)
 have okx41 : (KNote w31).ok (⟨h, ((l.length : Nat) : Int), d, A15, q, c16, t⟩ : NM) := ⟨hh, (by show I64 ((l.length : Nat) : Int); unfold I64; omega), hd, hr39, ht⟩
 refine reg_p NoF 1 [0, 2, 4, 5, 6] (.rd 1 (.rd 3 (.fork 0 (.fork 2 (.ex 4 (.ex 5 (.ex 6 (.rd 7 .nil)))) 4 (.ex 2 (.ex 5 (.ex 6 (.rd 7 .nil))))) 4 (.ex 0 (.ex 2 (.ex 5 (.ex 6 (.rd 7 .nil)))))))) (by kernel_rfl) (by kernel_rfl) (fun _ _ _ _ _ h => h) fun w42 o43 => ?_
 have B44 := (Blk.k B33 o43)
 refine Pl.MSP (b := false) (by kernel_rfl) (fun W oW => r_mv Z rfl) Z rfl rfl ?_; clear Z az; intro az Z
 refine Pl.MSP (b := false) (by kernel_rfl) (fun W oW => r_ldA Tryz.isAgg51 Tryz.sizeOf51 Z rfl (Blk.ca (Blk.k B44 oW)) rfl) Z rfl rfl ?_; clear Z az; intro az Z
 refine wpPl_fork ?_ ?_
 ·
  obtain ⟨A45, w46, hw, hA, r47, o48⟩ := made0 (w := w42) (e := 51) (size := 5)
  refine Pl.MD (r_bs0 Tryz.underlying44 Tryz.sizeOf51) Z rfl rfl ?_ ?_
  · rw [← hw]; exact ⟨fun _ => o48, (Only.trans (Only.refl NoF w42) o48 (fun _ h => h.elim))⟩
  rw [← hw, ← hA]; clear Z az; intro az Z
  clear hw hA
  refine wpPl_fork ?_ ?_
  ·
   have O49 : Only NoF w31 w46 := (Only.trans' o43 o48)
   have h50 := (SliceOf.kp f35 O49 (fun _ _ h => h) (fun _ _ _ _ h => h))
   have hb58 : (List.length (([] : List NM)) + List.length (l)) * 64 ≤ 140737488355328 := by (simp only [List.length_append, List.length_cons, List.length_nil]; omega)
   obtain ⟨A51, c52, w53, hr54, r55, o56, al57⟩ := Row.app (P := Tryz.prog) (l := ([] : List NM)) (l2 := l) (KNote w31) elemNote r47 h50 hb58 (by unfold maxLen; omega) (size_only o48)
   simp only [List.nil_append, List.append_nil] at hr54 r55 al57
   refine Pl.MD (r_app hr54 Z rfl rfl) Z rfl rfl ?_ ?_
   · exact ⟨fun h => absurd h (by decide), (Only.trans (Only.trans (Only.refl NoF w42) o48 (fun _ h => h.elim)) o56 (fun k h => .inr (Nat.le_trans (Nat.le_refl _) ((ownF_ge r47) k h))))⟩
   clear Z az; intro az Z
   have ok59 : ∀ zq ∈ l, (KNote w31).ok zq := (Row.oks (KNote w31) h50)
   have h60 := Row.own (KNote w31) r55 ok59
   obtain ⟨A61, w62, hw, hA, r63, o64⟩ := Row.made (w := w53) (KNote w31) (e := 51) ([(⟨h, ((l.length : Nat) : Int), d, A15, q, c16, t⟩ : NM)] : List NM) (by simp only [List.length_cons, List.length_nil]; unfold maxLen; omega)
   refine Pl.MD (r_bs (z := .agg #[.int .i64 (0), .int .i64 (0), .int .i64 (0), .slice none (0) 0, strV ([])]) (size := 5) (vs := [(0, .agg #[.int .i64 (h), .int .i64 (((l.length : Nat) : Int)), .int .i64 (d), .slice A15 ((q).length) c16, strV (t)])]) (cs := List.flatMap (KNote w31).cells [(⟨h, ((l.length : Nat) : Int), d, A15, q, c16, t⟩ : NM)]) Tryz.underlying44 Tryz.sizeOf51 Tryz.zeroValue51 rfl (Fr.evalps Z rfl) (by kernel_rfl)) Z rfl rfl ?_ ?_
   · rw [← hw]; exact ⟨fun h => absurd h (by decide), (Only.trans (Only.trans (Only.trans (Only.refl NoF w42) o48 (fun _ h => h.elim)) o56 (fun k h => .inr (Nat.le_trans (Nat.le_refl _) ((ownF_ge r47) k h)))) o64 (fun _ h => h.elim))⟩
   rw [← hw, ← hA]; clear Z az; intro az Z
   clear hw hA
   have ok65 : ∀ zq ∈ ([(⟨h, ((l.length : Nat) : Int), d, A15, q, c16, t⟩ : NM)] : List NM), (KNote w31).ok zq := by intro zq hx; simp only [List.mem_cons, List.not_mem_nil, or_false] at hx; rcases hx with rfl <;> first | exact okx41
   have r66 := (ow_k r55 o64)
   have h67 := Row.own (KNote w31) r63 ok65
   have h68 := SliceOf.pl h67
   have hb76 : (List.length (l) + List.length ([(⟨h, ((l.length : Nat) : Int), d, A15, q, c16, t⟩ : NM)])) * 64 ≤ 140737488355328 := by (simp only [List.length_append, List.length_cons, List.length_nil]; omega)
   have O77 : Only NoF w42 w62 := (Only.trans' (o_sg o48 o56 (Nat.le_refl _) (ownF_ge r47)) o64)
   obtain ⟨A69, c70, w71, hr72, r73, o74, al75⟩ := Row.app (P := Tryz.prog) (l := l) (l2 := [(⟨h, ((l.length : Nat) : Int), d, A15, q, c16, t⟩ : NM)]) (KNote w31) elemNote r66 h68 hb76 (by unfold maxLen; omega) (size_only O77)
   refine Pl.MD (r_app hr72 Z rfl rfl) Z rfl rfl ?_ ?_
   · exact ⟨fun h => absurd h (by decide), (Only.trans (Only.trans (Only.trans (Only.trans (Only.refl NoF w42) o48 (fun _ h => h.elim)) o56 (fun k h => .inr (Nat.le_trans (Nat.le_refl _) ((ownF_ge r47) k h)))) o64 (fun _ h => h.elim)) o74 (fun k h => .inr (Nat.le_trans (Nat.le_refl _) ((ownF_ge r55) k h))))⟩
   clear Z az; intro az Z
   have ok78 : ∀ zq ∈ (l ++ [(⟨h, ((l.length : Nat) : Int), d, A15, q, c16, t⟩ : NM)]), (KNote w31).ok zq := (fun x hx => (List.mem_append.1 hx).elim (ok59 x) ((Row.oks (KNote w31) h68) x))
   have h79 := Row.own (KNote w31) r73 ok78
   have h80 := SliceOf.pl h79
   have O81 : Only NoF w31 w71 := (o_sg (Only.trans' (o_sg O49 o56 (size_only o43) (ownF_ge r47)) o64) o74 (size_only o43) (ownF_ge r55))
   refine Pl.MSV (v := .int .i64 ((check (l ++ [(⟨h, ((l.length : Nat) : Int), d, A15, q, c16, t⟩ : NM)])))) Z rfl rfl rfl Tryz.call33 (rCheck_v (notes_up h80 O81)) rfl (fun w' o' => ⟨fun h => absurd h (by decide), (Only.trans (Only.trans (Only.trans (Only.trans (Only.trans (Only.refl NoF w42) o48 (fun _ h => h.elim)) o56 (fun k h => .inr (Nat.le_trans (Nat.le_refl _) ((ownF_ge r47) k h)))) o64 (fun _ h => h.elim)) o74 (fun k h => .inr (Nat.le_trans (Nat.le_refl _) ((ownF_ge r55) k h)))) o' (fun _ h => h.elim))⟩) fun w82 o83 => ?_; clear Z az; intro az Z
   refine Pl.MSP (b := false) (by kernel_rfl) (fun W oW => r_as Z rfl) Z rfl rfl ?_; clear Z az; intro az Z
   refine wpPl_nil ?_
   refine hK34 _ _ (wp_seq_k fun K84 hK84 => ?_)
   refine wp_seq_k fun K85 hK85 => wp_region_lit ?_
   refine L (r_mv Z rfl) Z rfl ?_; clear Z az; intro az Z
   refine L (r_neI Z rfl rfl) Z rfl ?_; clear Z az; intro az Z
   refine hK85 _ _ ?_
   refine br Z rfl (fun hc86 => ?_) (fun hc86 => ?_)
   ·
    have p87 := of_decide_eq_false (nt_t hc86)
    refine wp_seq_k fun K88 hK88 => wp_region_lit ?_
    refine L (r_bd (v := .agg #[.int .i64 (0), .int .i64 (0), .int .i64 (0), .slice none (0) 0, strV ([])]) (build_Note0) Z rfl) Z rfl ?_; clear Z az; intro az Z
    refine L (r_mv Z rfl) Z rfl ?_; clear Z az; intro az Z
    have O90 : Only NoF w3 w17 := (o_sg o12 o20 (Nat.le_refl _) (ownF_ge r11))
    have ne89 : g2 ≠ g25 := (ne_of hl7 (Nat.le_trans (size_only O90) hg29))
    have O91 : Only NoF w3 w42 := (Only.trans' (o_sg (Only.trans' O90 o27) s32 (size_only O90) (oneF_ge hg29)) o43)
    have B92 := (Blk.k (Blk.only (Blk.k (Blk.only (Blk.k (Blk.k (Blk.st (Blk.k (Blk.only (Blk.k B5 o12) o20 (ow_nb r11 (Blk.k B5 o12) (by decide))) o27) s32 ne89) o43) o48) o56 (fun h => absurd ((ownF_ge r47) _ h) (Nat.not_le.2 (Nat.lt_of_lt_of_le hl7 (size_only O91))))) o64) o74 (fun h => absurd ((ownF_ge r55) _ h) (Nat.not_le.2 (Nat.lt_of_lt_of_le hl7 (size_only O91))))) o83)
    refine LSt (cs' := [.int .i64 (0), .int .i64 (0), .int .i64 (0), .slice none (0) 0, strV ([])]) Tryz.sizeOf51 Z rfl rfl rfl rfl rfl ⟨rfl, rfl, rfl, rfl, rfl, trivial⟩ B92 rfl rfl fun w93 s94 B95 => ?_
    refine L (r_as Z rfl) Z rfl ?_; clear Z az; intro az Z
    refine hK88 _ _ ?_
    refine wp_ret ?_
    show bodyPost _ _ _ .ret _ _
    refine ret_of (vs := [.agg #[.int .i64 (0), .int .i64 (0), .int .i64 (0), .slice none (0) 0, strV ([])], .int .i64 ((check (l ++ [(⟨h, ((l.length : Nat) : Int), d, A15, q, c16, t⟩ : NM)])))]) Z Tryz.results40 ⟨⟨_, rfl, l_ca Tryz.isAgg51 Tryz.sizeOf51 (Blk.ca B95) rfl⟩, rfl, trivial⟩ ?_
    have O96 : Only NoF w w42 := (Only.trans' O37 o43)
    have O97 : Only NoF w w93 := (o_sg (Only.trans' (o_sg (Only.trans' (o_sg (Only.trans' (Only.trans' O37 o43) o48) o56 (size_only O96) (ownF_ge r47)) o64) o74 (size_only O96) (ownF_ge r55)) o83) s94 (Nat.le_refl _) (oneF_ge hg6))
    rw [show check (l ++ [(⟨h, ((l.length : Nat) : Int), d, A15, q, c16, t⟩ : NM)]) = check (l ++ [⟨h, ((l.length : Nat) : Int), d, none, q, 0, t⟩]) from check_last] at *
    exact ⟨_, rfl, O97, .inl ⟨of_decide_eq_false (nt_t hc86), rfl⟩⟩
   ·
    have p98 := of_decide_eq_true (nt_f hc86)
    refine wp_skip ?_
    refine hK84 _ _ (wp_seq_k fun K99 hK99 => wp_region_lit ?_)
    have O100 := (Only.trans (Only.trans (Only.refl (fun _ => True) w26) s32 (fun _ _ => .inl trivial)) o43 (fun _ _ => .inl trivial))
    have B101 := (Blk.k (Blk.only (Blk.k (Blk.only (Blk.k B44 o48) o56 (fun h => absurd ((ownF_ge r47) _ h) (Nat.not_le.2 (Nat.lt_of_lt_of_le hl30 (size_only O100))))) o64) o74 (fun h => absurd ((ownF_ge r55) _ h) (Nat.not_le.2 (Nat.lt_of_lt_of_le hl30 (size_only O100))))) o83)
    refine L (r_ldA Tryz.isAgg51 Tryz.sizeOf51 Z rfl (Blk.ca B101) rfl) Z rfl ?_; clear Z az; intro az Z
    have O103 : Only NoF w3 w17 := (o_sg o12 o20 (Nat.le_refl _) (ownF_ge r11))
    have ne102 : g2 ≠ g25 := (ne_of hl7 (Nat.le_trans (size_only O103) hg29))
    have O104 : Only NoF w3 w42 := (Only.trans' (o_sg (Only.trans' O103 o27) s32 (size_only O103) (oneF_ge hg29)) o43)
    have B105 := (Blk.k (Blk.only (Blk.k (Blk.only (Blk.k (Blk.k (Blk.st (Blk.k (Blk.only (Blk.k B5 o12) o20 (ow_nb r11 (Blk.k B5 o12) (by decide))) o27) s32 ne102) o43) o48) o56 (fun h => absurd ((ownF_ge r47) _ h) (Nat.not_le.2 (Nat.lt_of_lt_of_le hl7 (size_only O104))))) o64) o74 (fun h => absurd ((ownF_ge r55) _ h) (Nat.not_le.2 (Nat.lt_of_lt_of_le hl7 (size_only O104))))) o83)
    refine LSt (cs' := [.int .i64 (h), .int .i64 (((l.length : Nat) : Int)), .int .i64 (d), .slice A15 ((q).length) c16, strV (t)]) Tryz.sizeOf51 Z rfl rfl rfl rfl rfl ⟨rfl, rfl, rfl, rfl, rfl, trivial⟩ B105 rfl rfl fun w106 s107 B108 => ?_
    refine L (r_as Z rfl) Z rfl ?_; clear Z az; intro az Z
    refine hK99 _ _ ?_
    refine wp_ret ?_
    show bodyPost _ _ _ .ret _ _
    refine ret_of (vs := [.agg #[.int .i64 (h), .int .i64 (((l.length : Nat) : Int)), .int .i64 (d), .slice A15 ((q).length) c16, strV (t)], .int .i64 (0)]) Z Tryz.results40 ⟨⟨_, rfl, l_ca Tryz.isAgg51 Tryz.sizeOf51 (Blk.ca B108) rfl⟩, rfl, trivial⟩ ?_
    have O109 : Only NoF w w42 := (Only.trans' O37 o43)
    have O110 : Only NoF w w106 := (o_sg (Only.trans' (o_sg (Only.trans' (o_sg (Only.trans' (Only.trans' O37 o43) o48) o56 (size_only O109) (ownF_ge r47)) o64) o74 (size_only O109) (ownF_ge r55)) o83) s107 (Nat.le_refl _) (oneF_ge hg6))
    rw [show check (l ++ [(⟨h, ((l.length : Nat) : Int), d, A15, q, c16, t⟩ : NM)]) = check (l ++ [⟨h, ((l.length : Nat) : Int), d, none, q, 0, t⟩]) from check_last] at *
    have hz0 := of_decide_eq_true (nt_f hc86)
    have r111 := (ow_only (ow_k (ow_only (ow_k (ow_only (ow_k (ow_k r40 o43) o48) o56 (ow_ne (ow_k (ow_k r40 o43) o48) r47 (by decide))) o64) o74 (ow_ne (ow_k (ow_only (ow_k (ow_k r40 o43) o48) o56 (ow_ne (ow_k (ow_k r40 o43) o48) r47 (by decide))) o64) r66 (by decide))) o83) s107 (fun k hk => ge_F (oneF_lt hl7) (Nat.le_refl _) k (ownF_ge (ow_k (ow_only (ow_k (ow_only (ow_k (ow_k r40 o43) o48) o56 (ow_ne (ow_k (ow_k r40 o43) o48) r47 (by decide))) o64) o74 (ow_ne (ow_k (ow_only (ow_k (ow_k r40 o43) o48) o56 (ow_ne (ow_k (ow_k r40 o43) o48) r47 (by decide))) o64) r66 (by decide))) o83) k hk)))
    exact ⟨noteV (⟨h, ((l.length : Nat) : Int), d, A15, q, c16, t⟩ : NM), by rw [hz0]; rfl, O110, .inr ⟨hz0, (⟨h, ((l.length : Nat) : Int), d, A15, q, c16, t⟩ : NM), rfl, rfl, rfl, rfl, rfl, rfl, ⟨hh, (by show I64 ((l.length : Nat) : Int); unfold I64; omega), hd, (SliceOf.pl (Row.own KRef r111 ok23)), ht⟩, (SliceOf.sup (Row.own KRef r111 ok23) (fun k hk => Nat.le_trans (size_only o4) hk))⟩⟩
  ·
   obtain ⟨A112, w113, hw, hA, r114, o115⟩ := Row.made (w := w46) (KNote w31) (e := 51) ([(⟨h, ((l.length : Nat) : Int), d, A15, q, c16, t⟩ : NM)] : List NM) (by simp only [List.length_cons, List.length_nil]; unfold maxLen; omega)
   refine Pl.MD (r_bs (z := .agg #[.int .i64 (0), .int .i64 (0), .int .i64 (0), .slice none (0) 0, strV ([])]) (size := 5) (vs := [(0, .agg #[.int .i64 (h), .int .i64 (((l.length : Nat) : Int)), .int .i64 (d), .slice A15 ((q).length) c16, strV (t)])]) (cs := List.flatMap (KNote w31).cells [(⟨h, ((l.length : Nat) : Int), d, A15, q, c16, t⟩ : NM)]) Tryz.underlying44 Tryz.sizeOf51 Tryz.zeroValue51 rfl (Fr.evalps Z rfl) (by kernel_rfl)) Z rfl rfl ?_ ?_
   · rw [← hw]; exact ⟨fun h => absurd h (by decide), (Only.trans (Only.trans (Only.refl NoF w42) o48 (fun _ h => h.elim)) o115 (fun _ h => h.elim))⟩
   rw [← hw, ← hA]; clear Z az; intro az Z
   clear hw hA
   have ok116 : ∀ zq ∈ ([(⟨h, ((l.length : Nat) : Int), d, A15, q, c16, t⟩ : NM)] : List NM), (KNote w31).ok zq := by intro zq hx; simp only [List.mem_cons, List.not_mem_nil, or_false] at hx; rcases hx with rfl <;> first | exact okx41
   have r117 := (ow_k r47 o115)
   have O118 : Only NoF w31 w113 := (Only.trans' (Only.trans' o43 o48) o115)
   have h119 := (SliceOf.kp f35 O118 (fun _ _ h => h) (fun _ _ _ _ h => h))
   have hb127 : (List.length (([] : List NM)) + List.length (l)) * 64 ≤ 140737488355328 := by (simp only [List.length_append, List.length_cons, List.length_nil]; omega)
   have O128 : Only NoF w42 w113 := (Only.trans' o48 o115)
   obtain ⟨A120, c121, w122, hr123, r124, o125, al126⟩ := Row.app (P := Tryz.prog) (l := ([] : List NM)) (l2 := l) (KNote w31) elemNote r117 h119 hb127 (by unfold maxLen; omega) (size_only O128)
   simp only [List.nil_append, List.append_nil] at hr123 r124 al126
   refine Pl.MD (r_app hr123 Z rfl rfl) Z rfl rfl ?_ ?_
   · exact ⟨fun h => absurd h (by decide), (Only.trans (Only.trans (Only.trans (Only.refl NoF w42) o48 (fun _ h => h.elim)) o115 (fun _ h => h.elim)) o125 (fun k h => .inr (Nat.le_trans (Nat.le_refl _) ((ownF_ge r47) k h))))⟩
   clear Z az; intro az Z
   have ok129 : ∀ zq ∈ l, (KNote w31).ok zq := (Row.oks (KNote w31) h119)
   have h130 := Row.own (KNote w31) r124 ok129
   have h131 := Row.own (KNote w31) r114 ok116
   have h132 := (SliceOf.kp h131 o125 (ge_F (ownF_lt r47) (Nat.le_refl _)) (fun _ _ _ _ h => h))
   have h133 := SliceOf.pl h132
   have hb141 : (List.length (l) + List.length ([(⟨h, ((l.length : Nat) : Int), d, A15, q, c16, t⟩ : NM)])) * 64 ≤ 140737488355328 := by (simp only [List.length_append, List.length_cons, List.length_nil]; omega)
   have O142 : Only NoF w42 w122 := (o_sg O128 o125 (Nat.le_refl _) (ownF_ge r47))
   obtain ⟨A134, c135, w136, hr137, r138, o139, al140⟩ := Row.app (P := Tryz.prog) (l := l) (l2 := [(⟨h, ((l.length : Nat) : Int), d, A15, q, c16, t⟩ : NM)]) (KNote w31) elemNote r124 h133 hb141 (by unfold maxLen; omega) (size_only O142)
   refine Pl.MD (r_app hr137 Z rfl rfl) Z rfl rfl ?_ ?_
   · exact ⟨fun h => absurd h (by decide), (Only.trans (Only.trans (Only.trans (Only.trans (Only.refl NoF w42) o48 (fun _ h => h.elim)) o115 (fun _ h => h.elim)) o125 (fun k h => .inr (Nat.le_trans (Nat.le_refl _) ((ownF_ge r47) k h)))) o139 (fun k h => .inr (Nat.le_trans (Nat.le_refl _) ((ownF_ge r124) k h))))⟩
   clear Z az; intro az Z
   have ok143 : ∀ zq ∈ (l ++ [(⟨h, ((l.length : Nat) : Int), d, A15, q, c16, t⟩ : NM)]), (KNote w31).ok zq := (fun x hx => (List.mem_append.1 hx).elim (ok129 x) ((Row.oks (KNote w31) h133) x))
   have h144 := Row.own (KNote w31) r138 ok143
   have h145 := SliceOf.pl h144
   have O146 : Only NoF w31 w136 := (o_sg (o_sg O118 o125 (size_only o43) (ownF_ge r47)) o139 (size_only o43) (ownF_ge r124))
   refine Pl.MSV (v := .int .i64 ((check (l ++ [(⟨h, ((l.length : Nat) : Int), d, A15, q, c16, t⟩ : NM)])))) Z rfl rfl rfl Tryz.call33 (rCheck_v (notes_up h145 O146)) rfl (fun w' o' => ⟨fun h => absurd h (by decide), (Only.trans (Only.trans (Only.trans (Only.trans (Only.trans (Only.refl NoF w42) o48 (fun _ h => h.elim)) o115 (fun _ h => h.elim)) o125 (fun k h => .inr (Nat.le_trans (Nat.le_refl _) ((ownF_ge r47) k h)))) o139 (fun k h => .inr (Nat.le_trans (Nat.le_refl _) ((ownF_ge r124) k h)))) o' (fun _ h => h.elim))⟩) fun w147 o148 => ?_; clear Z az; intro az Z
   refine Pl.MSP (b := false) (by kernel_rfl) (fun W oW => r_as Z rfl) Z rfl rfl ?_; clear Z az; intro az Z
   refine wpPl_nil ?_
   refine hK34 _ _ (wp_seq_k fun K149 hK149 => ?_)
   refine wp_seq_k fun K150 hK150 => wp_region_lit ?_
   refine L (r_mv Z rfl) Z rfl ?_; clear Z az; intro az Z
   refine L (r_neI Z rfl rfl) Z rfl ?_; clear Z az; intro az Z
   refine hK150 _ _ ?_
   refine br Z rfl (fun hc151 => ?_) (fun hc151 => ?_)
   ·
    have p152 := of_decide_eq_false (nt_t hc151)
    refine wp_seq_k fun K153 hK153 => wp_region_lit ?_
    refine L (r_bd (v := .agg #[.int .i64 (0), .int .i64 (0), .int .i64 (0), .slice none (0) 0, strV ([])]) (build_Note0) Z rfl) Z rfl ?_; clear Z az; intro az Z
    refine L (r_mv Z rfl) Z rfl ?_; clear Z az; intro az Z
    have O155 : Only NoF w3 w17 := (o_sg o12 o20 (Nat.le_refl _) (ownF_ge r11))
    have ne154 : g2 ≠ g25 := (ne_of hl7 (Nat.le_trans (size_only O155) hg29))
    have O156 : Only NoF w3 w42 := (Only.trans' (o_sg (Only.trans' O155 o27) s32 (size_only O155) (oneF_ge hg29)) o43)
    have B157 := (Blk.k (Blk.only (Blk.only (Blk.k (Blk.k (Blk.k (Blk.st (Blk.k (Blk.only (Blk.k B5 o12) o20 (ow_nb r11 (Blk.k B5 o12) (by decide))) o27) s32 ne154) o43) o48) o115) o125 (fun h => absurd ((ownF_ge r47) _ h) (Nat.not_le.2 (Nat.lt_of_lt_of_le hl7 (size_only O156))))) o139 (fun h => absurd ((ownF_ge r124) _ h) (Nat.not_le.2 (Nat.lt_of_lt_of_le hl7 (size_only O156))))) o148)
    refine LSt (cs' := [.int .i64 (0), .int .i64 (0), .int .i64 (0), .slice none (0) 0, strV ([])]) Tryz.sizeOf51 Z rfl rfl rfl rfl rfl ⟨rfl, rfl, rfl, rfl, rfl, trivial⟩ B157 rfl rfl fun w158 s159 B160 => ?_
    refine L (r_as Z rfl) Z rfl ?_; clear Z az; intro az Z
    refine hK153 _ _ ?_
    refine wp_ret ?_
    show bodyPost _ _ _ .ret _ _
    refine ret_of (vs := [.agg #[.int .i64 (0), .int .i64 (0), .int .i64 (0), .slice none (0) 0, strV ([])], .int .i64 ((check (l ++ [(⟨h, ((l.length : Nat) : Int), d, A15, q, c16, t⟩ : NM)])))]) Z Tryz.results40 ⟨⟨_, rfl, l_ca Tryz.isAgg51 Tryz.sizeOf51 (Blk.ca B160) rfl⟩, rfl, trivial⟩ ?_
    have O161 : Only NoF w w42 := (Only.trans' O37 o43)
    have O162 : Only NoF w w158 := (o_sg (Only.trans' (o_sg (o_sg (Only.trans' (Only.trans' (Only.trans' O37 o43) o48) o115) o125 (size_only O161) (ownF_ge r47)) o139 (size_only O161) (ownF_ge r124)) o148) s159 (Nat.le_refl _) (oneF_ge hg6))
    rw [show check (l ++ [(⟨h, ((l.length : Nat) : Int), d, A15, q, c16, t⟩ : NM)]) = check (l ++ [⟨h, ((l.length : Nat) : Int), d, none, q, 0, t⟩]) from check_last] at *
    exact ⟨_, rfl, O162, .inl ⟨of_decide_eq_false (nt_t hc151), rfl⟩⟩
   ·
    have p163 := of_decide_eq_true (nt_f hc151)
    refine wp_skip ?_
    refine hK149 _ _ (wp_seq_k fun K164 hK164 => wp_region_lit ?_)
    have O165 := (Only.trans (Only.trans (Only.refl (fun _ => True) w26) s32 (fun _ _ => .inl trivial)) o43 (fun _ _ => .inl trivial))
    have B166 := (Blk.k (Blk.only (Blk.only (Blk.k (Blk.k B44 o48) o115) o125 (fun h => absurd ((ownF_ge r47) _ h) (Nat.not_le.2 (Nat.lt_of_lt_of_le hl30 (size_only O165))))) o139 (fun h => absurd ((ownF_ge r124) _ h) (Nat.not_le.2 (Nat.lt_of_lt_of_le hl30 (size_only O165))))) o148)
    refine L (r_ldA Tryz.isAgg51 Tryz.sizeOf51 Z rfl (Blk.ca B166) rfl) Z rfl ?_; clear Z az; intro az Z
    have O168 : Only NoF w3 w17 := (o_sg o12 o20 (Nat.le_refl _) (ownF_ge r11))
    have ne167 : g2 ≠ g25 := (ne_of hl7 (Nat.le_trans (size_only O168) hg29))
    have O169 : Only NoF w3 w42 := (Only.trans' (o_sg (Only.trans' O168 o27) s32 (size_only O168) (oneF_ge hg29)) o43)
    have B170 := (Blk.k (Blk.only (Blk.only (Blk.k (Blk.k (Blk.k (Blk.st (Blk.k (Blk.only (Blk.k B5 o12) o20 (ow_nb r11 (Blk.k B5 o12) (by decide))) o27) s32 ne167) o43) o48) o115) o125 (fun h => absurd ((ownF_ge r47) _ h) (Nat.not_le.2 (Nat.lt_of_lt_of_le hl7 (size_only O169))))) o139 (fun h => absurd ((ownF_ge r124) _ h) (Nat.not_le.2 (Nat.lt_of_lt_of_le hl7 (size_only O169))))) o148)
    refine LSt (cs' := [.int .i64 (h), .int .i64 (((l.length : Nat) : Int)), .int .i64 (d), .slice A15 ((q).length) c16, strV (t)]) Tryz.sizeOf51 Z rfl rfl rfl rfl rfl ⟨rfl, rfl, rfl, rfl, rfl, trivial⟩ B170 rfl rfl fun w171 s172 B173 => ?_
    refine L (r_as Z rfl) Z rfl ?_; clear Z az; intro az Z
    refine hK164 _ _ ?_
    refine wp_ret ?_
    show bodyPost _ _ _ .ret _ _
    refine ret_of (vs := [.agg #[.int .i64 (h), .int .i64 (((l.length : Nat) : Int)), .int .i64 (d), .slice A15 ((q).length) c16, strV (t)], .int .i64 (0)]) Z Tryz.results40 ⟨⟨_, rfl, l_ca Tryz.isAgg51 Tryz.sizeOf51 (Blk.ca B173) rfl⟩, rfl, trivial⟩ ?_
    have O174 : Only NoF w w42 := (Only.trans' O37 o43)
    have O175 : Only NoF w w171 := (o_sg (Only.trans' (o_sg (o_sg (Only.trans' (Only.trans' (Only.trans' O37 o43) o48) o115) o125 (size_only O174) (ownF_ge r47)) o139 (size_only O174) (ownF_ge r124)) o148) s172 (Nat.le_refl _) (oneF_ge hg6))
    rw [show check (l ++ [(⟨h, ((l.length : Nat) : Int), d, A15, q, c16, t⟩ : NM)]) = check (l ++ [⟨h, ((l.length : Nat) : Int), d, none, q, 0, t⟩]) from check_last] at *
    have hz0 := of_decide_eq_true (nt_f hc151)
    have r176 := (ow_only (ow_k (ow_only (ow_only (ow_k (ow_k (ow_k r40 o43) o48) o115) o125 (ow_ne (ow_k (ow_k (ow_k r40 o43) o48) o115) r117 (by decide))) o139 (ow_ne (ow_only (ow_k (ow_k (ow_k r40 o43) o48) o115) o125 (ow_ne (ow_k (ow_k (ow_k r40 o43) o48) o115) r117 (by decide))) r124 (by decide))) o148) s172 (fun k hk => ge_F (oneF_lt hl7) (Nat.le_refl _) k (ownF_ge (ow_k (ow_only (ow_only (ow_k (ow_k (ow_k r40 o43) o48) o115) o125 (ow_ne (ow_k (ow_k (ow_k r40 o43) o48) o115) r117 (by decide))) o139 (ow_ne (ow_only (ow_k (ow_k (ow_k r40 o43) o48) o115) o125 (ow_ne (ow_k (ow_k (ow_k r40 o43) o48) o115) r117 (by decide))) r124 (by decide))) o148) k hk)))
    exact ⟨noteV (⟨h, ((l.length : Nat) : Int), d, A15, q, c16, t⟩ : NM), by rw [hz0]; rfl, O175, .inr ⟨hz0, (⟨h, ((l.length : Nat) : Int), d, A15, q, c16, t⟩ : NM), rfl, rfl, rfl, rfl, rfl, rfl, ⟨hh, (by show I64 ((l.length : Nat) : Int); unfold I64; omega), hd, (SliceOf.pl (Row.own KRef r176 ok23)), ht⟩, (SliceOf.sup (Row.own KRef r176 ok23) (fun k hk => Nat.le_trans (size_only o4) hk))⟩⟩
 ·
  obtain ⟨A177, w178, hw, hA, r179, o180⟩ := Row.made (w := w42) (KNote w31) (e := 51) ([(⟨h, ((l.length : Nat) : Int), d, A15, q, c16, t⟩ : NM)] : List NM) (by simp only [List.length_cons, List.length_nil]; unfold maxLen; omega)
  refine Pl.MD (r_bs (z := .agg #[.int .i64 (0), .int .i64 (0), .int .i64 (0), .slice none (0) 0, strV ([])]) (size := 5) (vs := [(0, .agg #[.int .i64 (h), .int .i64 (((l.length : Nat) : Int)), .int .i64 (d), .slice A15 ((q).length) c16, strV (t)])]) (cs := List.flatMap (KNote w31).cells [(⟨h, ((l.length : Nat) : Int), d, A15, q, c16, t⟩ : NM)]) Tryz.underlying44 Tryz.sizeOf51 Tryz.zeroValue51 rfl (Fr.evalps Z rfl) (by kernel_rfl)) Z rfl rfl ?_ ?_
  · rw [← hw]; exact ⟨fun _ => o180, (Only.trans (Only.refl NoF w42) o180 (fun _ h => h.elim))⟩
  rw [← hw, ← hA]; clear Z az; intro az Z
  clear hw hA
  have ok181 : ∀ zq ∈ ([(⟨h, ((l.length : Nat) : Int), d, A15, q, c16, t⟩ : NM)] : List NM), (KNote w31).ok zq := by intro zq hx; simp only [List.mem_cons, List.not_mem_nil, or_false] at hx; rcases hx with rfl <;> first | exact okx41
  obtain ⟨A182, w183, hw, hA, r184, o185⟩ := made0 (w := w178) (e := 51) (size := 5)
  refine Pl.MD (r_bs0 Tryz.underlying44 Tryz.sizeOf51) Z rfl rfl ?_ ?_
  · rw [← hw]; exact ⟨fun h => absurd h (by decide), (Only.trans (Only.trans (Only.refl NoF w42) o180 (fun _ h => h.elim)) o185 (fun _ h => h.elim))⟩
  rw [← hw, ← hA]; clear Z az; intro az Z
  clear hw hA
  have O186 : Only NoF w31 w183 := (Only.trans' (Only.trans' o43 o180) o185)
  have h187 := (SliceOf.kp f35 O186 (fun _ _ h => h) (fun _ _ _ _ h => h))
  have hb195 : (List.length (([] : List NM)) + List.length (l)) * 64 ≤ 140737488355328 := by (simp only [List.length_append, List.length_cons, List.length_nil]; omega)
  obtain ⟨A188, c189, w190, hr191, r192, o193, al194⟩ := Row.app (P := Tryz.prog) (l := ([] : List NM)) (l2 := l) (KNote w31) elemNote r184 h187 hb195 (by unfold maxLen; omega) (size_only o185)
  simp only [List.nil_append, List.append_nil] at hr191 r192 al194
  refine Pl.MD (r_app hr191 Z rfl rfl) Z rfl rfl ?_ ?_
  · exact ⟨fun h => absurd h (by decide), (Only.trans (Only.trans (Only.trans (Only.refl NoF w42) o180 (fun _ h => h.elim)) o185 (fun _ h => h.elim)) o193 (fun k h => .inr (Nat.le_trans (size_only o180) ((ownF_ge r184) k h))))⟩
  clear Z az; intro az Z
  have ok196 : ∀ zq ∈ l, (KNote w31).ok zq := (Row.oks (KNote w31) h187)
  have h197 := Row.own (KNote w31) r192 ok196
  have h198 := Row.own (KNote w31) r179 ok181
  have O199 : Only NoF w178 w190 := (o_sg o185 o193 (Nat.le_refl _) (ownF_ge r184))
  have h200 := (SliceOf.kp h198 O199 (fun _ _ h => h) (fun _ _ _ _ h => h))
  have h201 := SliceOf.pl h200
  have hb209 : (List.length (l) + List.length ([(⟨h, ((l.length : Nat) : Int), d, A15, q, c16, t⟩ : NM)])) * 64 ≤ 140737488355328 := by (simp only [List.length_append, List.length_cons, List.length_nil]; omega)
  obtain ⟨A202, c203, w204, hr205, r206, o207, al208⟩ := Row.app (P := Tryz.prog) (l := l) (l2 := [(⟨h, ((l.length : Nat) : Int), d, A15, q, c16, t⟩ : NM)]) (KNote w31) elemNote r192 h201 hb209 (by unfold maxLen; omega) (size_only O199)
  refine Pl.MD (r_app hr205 Z rfl rfl) Z rfl rfl ?_ ?_
  · exact ⟨fun h => absurd h (by decide), (Only.trans (Only.trans (Only.trans (Only.trans (Only.refl NoF w42) o180 (fun _ h => h.elim)) o185 (fun _ h => h.elim)) o193 (fun k h => .inr (Nat.le_trans (size_only o180) ((ownF_ge r184) k h)))) o207 (fun k h => .inr (Nat.le_trans (size_only o180) ((ownF_ge r192) k h))))⟩
  clear Z az; intro az Z
  have ok210 : ∀ zq ∈ (l ++ [(⟨h, ((l.length : Nat) : Int), d, A15, q, c16, t⟩ : NM)]), (KNote w31).ok zq := (fun x hx => (List.mem_append.1 hx).elim (ok196 x) ((Row.oks (KNote w31) h201) x))
  have h211 := Row.own (KNote w31) r206 ok210
  have h212 := SliceOf.pl h211
  have O213 : Only NoF w31 w178 := (Only.trans' o43 o180)
  have O214 : Only NoF w31 w204 := (o_sg (o_sg O186 o193 (size_only O213) (ownF_ge r184)) o207 (size_only O213) (ownF_ge r192))
  refine Pl.MSV (v := .int .i64 ((check (l ++ [(⟨h, ((l.length : Nat) : Int), d, A15, q, c16, t⟩ : NM)])))) Z rfl rfl rfl Tryz.call33 (rCheck_v (notes_up h212 O214)) rfl (fun w' o' => ⟨fun h => absurd h (by decide), (Only.trans (Only.trans (Only.trans (Only.trans (Only.trans (Only.refl NoF w42) o180 (fun _ h => h.elim)) o185 (fun _ h => h.elim)) o193 (fun k h => .inr (Nat.le_trans (size_only o180) ((ownF_ge r184) k h)))) o207 (fun k h => .inr (Nat.le_trans (size_only o180) ((ownF_ge r192) k h)))) o' (fun _ h => h.elim))⟩) fun w215 o216 => ?_; clear Z az; intro az Z
  refine Pl.MSP (b := false) (by kernel_rfl) (fun W oW => r_as Z rfl) Z rfl rfl ?_; clear Z az; intro az Z
  refine wpPl_nil ?_
  refine hK34 _ _ (wp_seq_k fun K217 hK217 => ?_)
  refine wp_seq_k fun K218 hK218 => wp_region_lit ?_
  refine L (r_mv Z rfl) Z rfl ?_; clear Z az; intro az Z
  refine L (r_neI Z rfl rfl) Z rfl ?_; clear Z az; intro az Z
  refine hK218 _ _ ?_
  refine br Z rfl (fun hc219 => ?_) (fun hc219 => ?_)
  ·
   have p220 := of_decide_eq_false (nt_t hc219)
   refine wp_seq_k fun K221 hK221 => wp_region_lit ?_
   refine L (r_bd (v := .agg #[.int .i64 (0), .int .i64 (0), .int .i64 (0), .slice none (0) 0, strV ([])]) (build_Note0) Z rfl) Z rfl ?_; clear Z az; intro az Z
   refine L (r_mv Z rfl) Z rfl ?_; clear Z az; intro az Z
   have O223 : Only NoF w3 w17 := (o_sg o12 o20 (Nat.le_refl _) (ownF_ge r11))
   have ne222 : g2 ≠ g25 := (ne_of hl7 (Nat.le_trans (size_only O223) hg29))
   have O224 : Only NoF w3 w178 := (Only.trans' (Only.trans' (o_sg (Only.trans' O223 o27) s32 (size_only O223) (oneF_ge hg29)) o43) o180)
   have B225 := (Blk.k (Blk.only (Blk.only (Blk.k (Blk.k (Blk.k (Blk.st (Blk.k (Blk.only (Blk.k B5 o12) o20 (ow_nb r11 (Blk.k B5 o12) (by decide))) o27) s32 ne222) o43) o180) o185) o193 (fun h => absurd ((ownF_ge r184) _ h) (Nat.not_le.2 (Nat.lt_of_lt_of_le hl7 (size_only O224))))) o207 (fun h => absurd ((ownF_ge r192) _ h) (Nat.not_le.2 (Nat.lt_of_lt_of_le hl7 (size_only O224))))) o216)
   refine LSt (cs' := [.int .i64 (0), .int .i64 (0), .int .i64 (0), .slice none (0) 0, strV ([])]) Tryz.sizeOf51 Z rfl rfl rfl rfl rfl ⟨rfl, rfl, rfl, rfl, rfl, trivial⟩ B225 rfl rfl fun w226 s227 B228 => ?_
   refine L (r_as Z rfl) Z rfl ?_; clear Z az; intro az Z
   refine hK221 _ _ ?_
   refine wp_ret ?_
   show bodyPost _ _ _ .ret _ _
   refine ret_of (vs := [.agg #[.int .i64 (0), .int .i64 (0), .int .i64 (0), .slice none (0) 0, strV ([])], .int .i64 ((check (l ++ [(⟨h, ((l.length : Nat) : Int), d, A15, q, c16, t⟩ : NM)])))]) Z Tryz.results40 ⟨⟨_, rfl, l_ca Tryz.isAgg51 Tryz.sizeOf51 (Blk.ca B228) rfl⟩, rfl, trivial⟩ ?_
   have O229 : Only NoF w w178 := (Only.trans' (Only.trans' O37 o43) o180)
   have O230 : Only NoF w w226 := (o_sg (Only.trans' (o_sg (o_sg (Only.trans' (Only.trans' (Only.trans' O37 o43) o180) o185) o193 (size_only O229) (ownF_ge r184)) o207 (size_only O229) (ownF_ge r192)) o216) s227 (Nat.le_refl _) (oneF_ge hg6))
   rw [show check (l ++ [(⟨h, ((l.length : Nat) : Int), d, A15, q, c16, t⟩ : NM)]) = check (l ++ [⟨h, ((l.length : Nat) : Int), d, none, q, 0, t⟩]) from check_last] at *
   exact ⟨_, rfl, O230, .inl ⟨of_decide_eq_false (nt_t hc219), rfl⟩⟩
  ·
   have p231 := of_decide_eq_true (nt_f hc219)
   refine wp_skip ?_
   refine hK217 _ _ (wp_seq_k fun K232 hK232 => wp_region_lit ?_)
   have O233 := (Only.trans (Only.trans (Only.trans (Only.refl (fun _ => True) w26) s32 (fun _ _ => .inl trivial)) o43 (fun _ _ => .inl trivial)) o180 (fun _ _ => .inl trivial))
   have B234 := (Blk.k (Blk.only (Blk.only (Blk.k (Blk.k B44 o180) o185) o193 (fun h => absurd ((ownF_ge r184) _ h) (Nat.not_le.2 (Nat.lt_of_lt_of_le hl30 (size_only O233))))) o207 (fun h => absurd ((ownF_ge r192) _ h) (Nat.not_le.2 (Nat.lt_of_lt_of_le hl30 (size_only O233))))) o216)
   refine L (r_ldA Tryz.isAgg51 Tryz.sizeOf51 Z rfl (Blk.ca B234) rfl) Z rfl ?_; clear Z az; intro az Z
   have O236 : Only NoF w3 w17 := (o_sg o12 o20 (Nat.le_refl _) (ownF_ge r11))
   have ne235 : g2 ≠ g25 := (ne_of hl7 (Nat.le_trans (size_only O236) hg29))
   have O237 : Only NoF w3 w178 := (Only.trans' (Only.trans' (o_sg (Only.trans' O236 o27) s32 (size_only O236) (oneF_ge hg29)) o43) o180)
   have B238 := (Blk.k (Blk.only (Blk.only (Blk.k (Blk.k (Blk.k (Blk.st (Blk.k (Blk.only (Blk.k B5 o12) o20 (ow_nb r11 (Blk.k B5 o12) (by decide))) o27) s32 ne235) o43) o180) o185) o193 (fun h => absurd ((ownF_ge r184) _ h) (Nat.not_le.2 (Nat.lt_of_lt_of_le hl7 (size_only O237))))) o207 (fun h => absurd ((ownF_ge r192) _ h) (Nat.not_le.2 (Nat.lt_of_lt_of_le hl7 (size_only O237))))) o216)
   refine LSt (cs' := [.int .i64 (h), .int .i64 (((l.length : Nat) : Int)), .int .i64 (d), .slice A15 ((q).length) c16, strV (t)]) Tryz.sizeOf51 Z rfl rfl rfl rfl rfl ⟨rfl, rfl, rfl, rfl, rfl, trivial⟩ B238 rfl rfl fun w239 s240 B241 => ?_
   refine L (r_as Z rfl) Z rfl ?_; clear Z az; intro az Z
   refine hK232 _ _ ?_
   refine wp_ret ?_
   show bodyPost _ _ _ .ret _ _
   refine ret_of (vs := [.agg #[.int .i64 (h), .int .i64 (((l.length : Nat) : Int)), .int .i64 (d), .slice A15 ((q).length) c16, strV (t)], .int .i64 (0)]) Z Tryz.results40 ⟨⟨_, rfl, l_ca Tryz.isAgg51 Tryz.sizeOf51 (Blk.ca B241) rfl⟩, rfl, trivial⟩ ?_
   have O242 : Only NoF w w178 := (Only.trans' (Only.trans' O37 o43) o180)
   have O243 : Only NoF w w239 := (o_sg (Only.trans' (o_sg (o_sg (Only.trans' (Only.trans' (Only.trans' O37 o43) o180) o185) o193 (size_only O242) (ownF_ge r184)) o207 (size_only O242) (ownF_ge r192)) o216) s240 (Nat.le_refl _) (oneF_ge hg6))
   rw [show check (l ++ [(⟨h, ((l.length : Nat) : Int), d, A15, q, c16, t⟩ : NM)]) = check (l ++ [⟨h, ((l.length : Nat) : Int), d, none, q, 0, t⟩]) from check_last] at *
   have hz0 := of_decide_eq_true (nt_f hc219)
   have r244 := (ow_only (ow_k (ow_only (ow_only (ow_k (ow_k (ow_k r40 o43) o180) o185) o193 (ow_ne (ow_k (ow_k (ow_k r40 o43) o180) o185) r184 (by decide))) o207 (ow_ne (ow_only (ow_k (ow_k (ow_k r40 o43) o180) o185) o193 (ow_ne (ow_k (ow_k (ow_k r40 o43) o180) o185) r184 (by decide))) r192 (by decide))) o216) s240 (fun k hk => ge_F (oneF_lt hl7) (Nat.le_refl _) k (ownF_ge (ow_k (ow_only (ow_only (ow_k (ow_k (ow_k r40 o43) o180) o185) o193 (ow_ne (ow_k (ow_k (ow_k r40 o43) o180) o185) r184 (by decide))) o207 (ow_ne (ow_only (ow_k (ow_k (ow_k r40 o43) o180) o185) o193 (ow_ne (ow_k (ow_k (ow_k r40 o43) o180) o185) r184 (by decide))) r192 (by decide))) o216) k hk)))
   exact ⟨noteV (⟨h, ((l.length : Nat) : Int), d, A15, q, c16, t⟩ : NM), by rw [hz0]; rfl, O243, .inr ⟨hz0, (⟨h, ((l.length : Nat) : Int), d, A15, q, c16, t⟩ : NM), rfl, rfl, rfl, rfl, rfl, rfl, ⟨hh, (by show I64 ((l.length : Nat) : Int); unfold I64; omega), hd, (SliceOf.pl (Row.own KRef r244 ok23)), ht⟩, (SliceOf.sup (Row.own KRef r244 ok23) (fun k hk => Nat.le_trans (size_only o4) hk))⟩⟩
theorem rNext_v {w : World} {v v2 : Value} {l : List NM} (f1 : NotesV w w v l) {q : List RM} (f2 : RefsV w v2 q) {h d : Int} (hh : I64 h) (hd : I64 d) {t : Str} (ht : t.length ≤ maxLen) (hl : l.length ≤ 1000) (hq : q.length ≤ 1000) : Calls Tryz.prog 40 #[v, .int .i64 h, .int .i64 d, v2, strV t] w (NextTo l h d q t w) := by
 obtain ⟨A1, c1, rfl, _⟩ := SliceOf.shape f1
 obtain ⟨A2, c2, rfl, _⟩ := SliceOf.shape f2
 exact rNext_v_ f1 f2 hh hd ht hl hq
theorem rEncode_v {w : World} {m : NM} (hk1 : (KNote w).ok m) : Calls Tryz.prog 41 [.agg #[.int .i64 m.h, .int .i64 m.n, .int .i64 m.d, .slice m.A m.l.length m.c, strV m.s]].toArray w (Fix (.tuple #[strV (if right m = true then encN m else []), .bool (right m)]) w) := by
 obtain ⟨_, _, _, h1, _⟩ := id hk1
 refine calls_start Tryz.func41 rfl rfl ?_
 intro az Z
 rw [Tryz.ntmps41] at Z
 refine wp_seq_k fun K1 hK1 => wp_region_lit ?_
 refine LBox Z rfl rfl rfl ?_
 clear Z az; intro g2 w3 hg6 hl7 o4 B5 az Z
 refine L (r_as Z rfl) Z rfl ?_; clear Z az; intro az Z
 refine L (r_as Z rfl) Z rfl ?_; clear Z az; intro az Z
 refine hK1 _ _ (wp_seq_k fun K8 hK8 => ?_)
 refine wp_seq_k fun K9 hK9 => wp_region_lit ?_
 refine L (r_ldA Tryz.isAgg51 Tryz.sizeOf51 Z rfl (Blk.ca B5) rfl) Z rfl ?_; clear Z az; intro az Z
 have h10 := (SliceOf.kp h1 o4 (fun _ _ h => h) (fun _ _ _ _ h => h))
 refine LCV (v := .bool (right m)) Z rfl rfl Tryz.call63 (rRight_v h10) rfl fun w11 o12 => ?_; clear Z az; intro az Z
 refine L (r_not Z rfl) Z rfl ?_; clear Z az; intro az Z
 refine hK9 _ _ ?_
 refine br Z rfl (fun hc13 => ?_) (fun hc13 => ?_)
 ·
  have q14 : right m = false := (nt_t hc13)
  refine wp_seq_k fun K15 hK15 => wp_region_lit ?_
  refine L (r_as Z rfl) Z rfl ?_; clear Z az; intro az Z
  refine L (r_as Z rfl) Z rfl ?_; clear Z az; intro az Z
  refine hK15 _ _ ?_
  refine wp_ret ?_
  show bodyPost _ _ _ .ret _ _
  refine ret_of (vs := [strV ([]), .bool (false)]) Z Tryz.results41 ⟨rfl, rfl, trivial⟩ ?_
  have O16 : Only NoF w w11 := (Only.trans' o4 o12)
  rw [show right m = false from nt_t hc13]; exact ⟨rfl, O16⟩
 ·
  have q17 : right m = true := (nt_f hc13)
  have hrt : right m = true := nt_f hc13
  obtain ⟨hrl, hrs⟩ := right_len hrt
  refine wp_skip ?_
  refine hK8 _ _ (wp_seq_k fun K18 hK18 => wp_region_lit ?_)
  refine L (r_as Z rfl) Z rfl ?_; clear Z az; intro az Z
  refine hK18 _ _ (wp_seq_k fun K19 hK19 => ?_)
  refine wp_seq_k fun K20 hK20 => wp_region_lit ?_
  refine L (r_as Z rfl) Z rfl ?_; clear Z az; intro az Z
  refine hK20 _ _ ?_
  refine wp_block ?_
  have B21 := (Blk.k B5 o12)
  refine wp_loop_m (fun mz az W => ∃ k : Nat, ∃ O : List Int, ∃ Ao : Option Addr, ∃ co : Nat, mz = m.l.length - k ∧ Fr 51 [(1, .pointer (some ((⟨g2, 0, none⟩ : Addr)))), (5, .int .i64 ((k : Int))), (4, .slice Ao (O.length) co)] az ∧ (k ≤ m.l.length) ∧ (O = flat2 (m.l.take k)) ∧ (∀ z ∈ O, KInt.ok z) ∧ Only NoF w W ∧ Blk W g2 51 [.int .i64 (m.h), .int .i64 (m.n), .int .i64 (m.d), .slice m.A (m.l.length) m.c, strV (m.s)].toArray ∧ W.ownsRow w.heap.size 3 1 (.slice Ao O.length co) O.length (List.flatMap KInt.cells O)) ?_ ?_
  ·
   have O22 : Only NoF w w11 := (Only.trans' o4 o12)
   exact ⟨_, 0, [], none, 0, rfl, Z.cut ⟨rfl, rfl, rfl, trivial⟩, Nat.zero_le _, rfl, (fun z hz => by cases hz), O22, B21, (World.ownsRow_nil _ _ _ _)⟩
  clear Z az
  rintro mz az w23 ⟨k, O, Ao, co, hm25, Z, hk, hO, okO, o24, B26, rO⟩
  have hOl : O.length = 2 * k := by rw [hO, flat2_len, List.length_take]; omega
  refine wp_seq_k fun K27 hK27 => ?_
  refine wp_seq_k fun K28 hK28 => wp_region_lit ?_
  refine L (r_mv Z rfl) Z rfl ?_; clear Z az; intro az Z
  refine L (r_fa (m' := 3) Tryz.underlying51 rfl Tryz.sizeOf36 rfl Z rfl rfl) Z rfl ?_; clear Z az; intro az Z
  refine L (r_ld Tryz.isAgg36 Z rfl ((Blk.ca B26) 3 _ rfl)) Z rfl ?_; clear Z az; intro az Z
  refine L (r_lenL Tryz.underlying36 Z rfl) Z rfl ?_; clear Z az; intro az Z
  refine L (r_ltI Z rfl rfl) Z rfl ?_; clear Z az; intro az Z
  refine hK28 _ _ ?_
  refine br Z rfl (fun hc29 => ?_) (fun hc29 => ?_)
  ·
   have p30 := of_decide_eq_true hc29
   refine wp_skip ?_
   refine hK27 _ _ (wp_seq_k fun K31 hK31 => ?_)
   refine wp_block ?_
   refine reg_p (ownF (.slice Ao (O.length) co)) 1 [7, 8, 15, 16] (.rd 0 (.rd 1 (.rd 2 (.rd 3 (.rd 4 (.rd 5 (.rd 6 (.rd 9 (.rd 10 (.rd 11 (.rd 12 (.rd 13 (.rd 14 (.fork 7 (.fork 8 (.ex 15 (.ex 16 (.rd 17 .nil))) 15 (.ex 8 (.ex 16 (.rd 17 .nil)))) 15 (.ex 7 (.ex 8 (.ex 16 (.rd 17 .nil)))))))))))))))))) (by kernel_rfl) (by kernel_rfl) (fun _ _ _ _ _ h => h) fun w32 o33 => ?_
   have B34 := (Blk.k B26 o33)
   refine Pl.MSP (b := false) (by kernel_rfl) (fun W oW => r_mv Z rfl) Z rfl rfl ?_; clear Z az; intro az Z
   refine Pl.MSP (b := false) (by kernel_rfl) (fun W oW => r_fa (m' := 3) Tryz.underlying51 rfl Tryz.sizeOf36 rfl Z rfl rfl) Z rfl rfl ?_; clear Z az; intro az Z
   have r35 := (ow_k rO o33)
   refine Pl.MSP (b := false) (by kernel_rfl) (fun W oW => r_ld Tryz.isAgg36 Z rfl ((Blk.ca (Blk.only B34 oW (ow_nb r35 B34 (by decide)))) 3 _ rfl)) Z rfl rfl ?_; clear Z az; intro az Z
   refine Pl.MSP (b := false) (by kernel_rfl) (fun W oW => r_mv Z rfl) Z rfl rfl ?_; clear Z az; intro az Z
   have hk36 : k < (m.l).length := by omega
   obtain ⟨m37, hm38, ok39, hA40⟩ := Row.el KRef h1 hk36
   have E41 : ∀ W, Only NoF w W → CA W (eA m.A 2 (k)) [.int .i64 (m37.h), .int .i64 (m37.n)] := Row.ce KRef h1 hm38 rfl
   refine Pl.MSP (b := false) (by kernel_rfl) (fun W oW => r_ia (k := k) (size := 2) Tryz.underlying36 Tryz.sizeOf53 Z rfl rfl rfl hk36 hA40) Z rfl rfl ?_; clear Z az; intro az Z
   refine Pl.MSP (b := false) (by kernel_rfl) (fun W oW => r_fa (m' := 0) Tryz.underlying53 rfl Tryz.sizeOf3 rfl Z rfl rfl) Z rfl rfl ?_; clear Z az; intro az Z
   have O42 : Only NoF w w32 := (Only.trans' o24 o33)
   refine Pl.MSP (b := false) (by kernel_rfl) (fun W oW => r_ld Tryz.isAgg3 Z rfl ((E41 _ (Only.trans O42 oW (fun k h => .inr ((fun k h => Nat.le_trans (Nat.le_refl _) ((ownF_ge rO) k h)) k h)))) 0 _ rfl)) Z rfl rfl ?_; clear Z az; intro az Z
   refine Pl.MSP (b := false) (by kernel_rfl) (fun W oW => r_fa (m' := 3) Tryz.underlying51 rfl Tryz.sizeOf36 rfl Z rfl rfl) Z rfl rfl ?_; clear Z az; intro az Z
   refine Pl.MSP (b := false) (by kernel_rfl) (fun W oW => r_ld Tryz.isAgg36 Z rfl ((Blk.ca (Blk.only B34 oW (ow_nb r35 B34 (by decide)))) 3 _ rfl)) Z rfl rfl ?_; clear Z az; intro az Z
   refine Pl.MSP (b := false) (by kernel_rfl) (fun W oW => r_mv Z rfl) Z rfl rfl ?_; clear Z az; intro az Z
   refine Pl.MSP (b := false) (by kernel_rfl) (fun W oW => r_ia (k := k) (size := 2) Tryz.underlying36 Tryz.sizeOf53 Z rfl rfl rfl hk36 hA40) Z rfl rfl ?_; clear Z az; intro az Z
   refine Pl.MSP (b := false) (by kernel_rfl) (fun W oW => r_fa (m' := 1) Tryz.underlying53 rfl Tryz.sizeOf3 rfl Z rfl rfl) Z rfl rfl ?_; clear Z az; intro az Z
   refine Pl.MSP (b := false) (by kernel_rfl) (fun W oW => r_ld Tryz.isAgg3 Z rfl ((E41 _ (Only.trans O42 oW (fun k h => .inr ((fun k h => Nat.le_trans (Nat.le_refl _) ((ownF_ge rO) k h)) k h)))) 1 _ rfl)) Z rfl rfl ?_; clear Z az; intro az Z
   refine wpPl_fork ?_ ?_
   ·
    obtain ⟨A43, w44, hw, hA, r45, o46⟩ := Row.made (w := w32) KInt (e := 3) ([m37.h] : List Int) (by simp only [List.length_cons, List.length_nil]; unfold maxLen; omega)
    refine Pl.MD (r_bs (z := .int .i64 (0)) (size := 1) (vs := [(0, .int .i64 (m37.h))]) (cs := List.flatMap KInt.cells [m37.h]) Tryz.underlying37 Tryz.sizeOf3 Tryz.zeroValue3 rfl (Fr.evalps Z rfl) (by kernel_rfl)) Z rfl rfl ?_ ?_
    · rw [← hw]; exact ⟨fun _ => o46, (Only.trans (Only.refl (ownF (.slice Ao (O.length) co)) w32) o46 (fun _ h => h.elim))⟩
    rw [← hw, ← hA]; clear Z az; intro az Z
    clear hw hA
    have ok47 : ∀ zq ∈ ([m37.h] : List Int), KInt.ok zq := by intro zq hx; simp only [List.mem_cons, List.not_mem_nil, or_false] at hx; rcases hx with rfl <;> first | exact ok39.1
    refine wpPl_fork ?_ ?_
    ·
     have r48 := (ow_k r35 o46)
     have h49 := Row.own KInt r45 ok47
     have h50 := SliceOf.pl h49
     have hb58 : (List.length (O) + List.length ([m37.h])) * 8 ≤ 140737488355328 := by (simp only [List.length_append, List.length_cons, List.length_nil]; omega)
     have O59 : Only NoF w w44 := (Only.trans' O42 o46)
     obtain ⟨A51, c52, w53, hr54, r55, o56, al57⟩ := Row.app (P := Tryz.prog) (l := O) (l2 := [m37.h]) KInt elemInt r48 h50 hb58 (by unfold maxLen; omega) (size_only O59)
     refine Pl.MD (r_app hr54 Z rfl rfl) Z rfl rfl ?_ ?_
     · exact ⟨fun h => absurd h (by decide), (Only.trans (Only.trans (Only.refl (ownF (.slice Ao (O.length) co)) w32) o46 (fun _ h => h.elim)) o56 (fun _ h => .inl h))⟩
     clear Z az; intro az Z
     have ok60 : ∀ zq ∈ (O ++ [m37.h]), KInt.ok zq := (fun x hx => (List.mem_append.1 hx).elim (okO x) ((Row.oks KInt h50) x))
     have h61 := Row.own KInt r55 ok60
     obtain ⟨A62, w63, hw, hA, r64, o65⟩ := Row.made (w := w53) KInt (e := 3) ([m37.n] : List Int) (by simp only [List.length_cons, List.length_nil]; unfold maxLen; omega)
     refine Pl.MD (r_bs (z := .int .i64 (0)) (size := 1) (vs := [(0, .int .i64 (m37.n))]) (cs := List.flatMap KInt.cells [m37.n]) Tryz.underlying37 Tryz.sizeOf3 Tryz.zeroValue3 rfl (Fr.evalps Z rfl) (by kernel_rfl)) Z rfl rfl ?_ ?_
     · rw [← hw]; exact ⟨fun h => absurd h (by decide), (Only.trans (Only.trans (Only.trans (Only.refl (ownF (.slice Ao (O.length) co)) w32) o46 (fun _ h => h.elim)) o56 (fun _ h => .inl h)) o65 (fun _ h => h.elim))⟩
     rw [← hw, ← hA]; clear Z az; intro az Z
     clear hw hA
     have ok66 : ∀ zq ∈ ([m37.n] : List Int), KInt.ok zq := by intro zq hx; simp only [List.mem_cons, List.not_mem_nil, or_false] at hx; rcases hx with rfl <;> first | exact ok39.2
     have r67 := (ow_k r55 o65)
     have h68 := Row.own KInt r64 ok66
     have h69 := SliceOf.pl h68
     have hb77 : (List.length ((O ++ [m37.h])) + List.length ([m37.n])) * 8 ≤ 140737488355328 := by (simp only [List.length_append, List.length_cons, List.length_nil]; omega)
     have O78 : Only NoF w w63 := (Only.trans' (o_sg O59 o56 (Nat.le_refl _) (ownF_ge rO)) o65)
     obtain ⟨A70, c71, w72, hr73, r74, o75, al76⟩ := Row.app (P := Tryz.prog) (l := (O ++ [m37.h])) (l2 := [m37.n]) KInt elemInt r67 h69 hb77 (by unfold maxLen; omega) (size_only O78)
     refine Pl.MD (r_app hr73 Z rfl rfl) Z rfl rfl ?_ ?_
     · exact ⟨fun h => absurd h (by decide), (Only.trans (Only.trans (Only.trans (Only.trans (Only.refl (ownF (.slice Ao (O.length) co)) w32) o46 (fun _ h => h.elim)) o56 (fun _ h => .inl h)) o65 (fun _ h => h.elim)) o75 (fun k h => (app_F al57 h).elim (fun h => .inl h) (fun h => .inr (by rw [h]; exact (size_only o46)))))⟩
     clear Z az; intro az Z
     have ok79 : ∀ zq ∈ ((O ++ [m37.h]) ++ [m37.n]), KInt.ok zq := (fun x hx => (List.mem_append.1 hx).elim (ok60 x) ((Row.oks KInt h69) x))
     have h80 := Row.own KInt r74 ok79
     refine Pl.MSP (b := false) (by kernel_rfl) (fun W oW => r_as Z rfl) Z rfl rfl ?_; clear Z az; intro az Z
     refine wpPl_nil ?_
     refine hK31 _ _ ?_
     refine wp_region_lit ?_
     refine L (r_mv Z rfl) Z rfl ?_; clear Z az; intro az Z
     have i81 : I64 (((k : Int) + 1)) := by unfold I64; omega
     refine L (r_addI (r := ((k : Int) + 1)) Z rfl rfl rfl i81) Z rfl ?_; clear Z az; intro az Z
     refine L (r_as Z rfl) Z rfl ?_; clear Z az; intro az Z
     have O82 : Only NoF w w72 := (o_sg O78 o75 (Nat.le_refl _) (ownF_ge r55))
     have B83 := (Blk.only (Blk.k (Blk.only (Blk.k B34 o46) o56 (ow_nb r48 (Blk.k B34 o46) (by decide))) o65) o75 (ow_nb r67 (Blk.k (Blk.only (Blk.k B34 o46) o56 (ow_nb r48 (Blk.k B34 o46) (by decide))) o65) (by decide)))
     exact ⟨_, (by omega), k + 1, _, A70, c71, rfl, Z.cut ⟨rfl, rfl, rfl, trivial⟩, (by omega), (by rw [hO, take_succ_get hm38, flat2, flat2, List.flatMap_append, List.append_assoc]; rfl), ok79, O82, B83, (ow_low r74 (Nat.le_refl _))⟩
    ·
     obtain ⟨A84, w85, hw, hA, r86, o87⟩ := Row.made (w := w44) KInt (e := 3) ([m37.n] : List Int) (by simp only [List.length_cons, List.length_nil]; unfold maxLen; omega)
     refine Pl.MD (r_bs (z := .int .i64 (0)) (size := 1) (vs := [(0, .int .i64 (m37.n))]) (cs := List.flatMap KInt.cells [m37.n]) Tryz.underlying37 Tryz.sizeOf3 Tryz.zeroValue3 rfl (Fr.evalps Z rfl) (by kernel_rfl)) Z rfl rfl ?_ ?_
     · rw [← hw]; exact ⟨fun h => absurd h (by decide), (Only.trans (Only.trans (Only.refl (ownF (.slice Ao (O.length) co)) w32) o46 (fun _ h => h.elim)) o87 (fun _ h => h.elim))⟩
     rw [← hw, ← hA]; clear Z az; intro az Z
     clear hw hA
     have ok88 : ∀ zq ∈ ([m37.n] : List Int), KInt.ok zq := by intro zq hx; simp only [List.mem_cons, List.not_mem_nil, or_false] at hx; rcases hx with rfl <;> first | exact ok39.2
     have r89 := (ow_k (ow_k r35 o46) o87)
     have h90 := Row.own KInt r45 ok47
     have h91 := (SliceOf.kp h90 o87 (fun _ _ h => h) (fun _ _ _ _ h => h))
     have h92 := SliceOf.pl h91
     have hb100 : (List.length (O) + List.length ([m37.h])) * 8 ≤ 140737488355328 := by (simp only [List.length_append, List.length_cons, List.length_nil]; omega)
     have O101 : Only NoF w w85 := (Only.trans' (Only.trans' O42 o46) o87)
     obtain ⟨A93, c94, w95, hr96, r97, o98, al99⟩ := Row.app (P := Tryz.prog) (l := O) (l2 := [m37.h]) KInt elemInt r89 h92 hb100 (by unfold maxLen; omega) (size_only O101)
     refine Pl.MD (r_app hr96 Z rfl rfl) Z rfl rfl ?_ ?_
     · exact ⟨fun h => absurd h (by decide), (Only.trans (Only.trans (Only.trans (Only.refl (ownF (.slice Ao (O.length) co)) w32) o46 (fun _ h => h.elim)) o87 (fun _ h => h.elim)) o98 (fun _ h => .inl h))⟩
     clear Z az; intro az Z
     have ok102 : ∀ zq ∈ (O ++ [m37.h]), KInt.ok zq := (fun x hx => (List.mem_append.1 hx).elim (okO x) ((Row.oks KInt h92) x))
     have h103 := Row.own KInt r97 ok102
     have h104 := Row.own KInt r86 ok88
     have O105 : Only NoF w23 w44 := (Only.trans' o33 o46)
     have h106 := (SliceOf.kp h104 o98 (ge_F (ownF_lt rO) (size_only O105)) (fun _ _ _ _ h => h))
     have h107 := SliceOf.pl h106
     have hb115 : (List.length ((O ++ [m37.h])) + List.length ([m37.n])) * 8 ≤ 140737488355328 := by (simp only [List.length_append, List.length_cons, List.length_nil]; omega)
     have O116 : Only NoF w w95 := (o_sg O101 o98 (Nat.le_refl _) (ownF_ge rO))
     obtain ⟨A108, c109, w110, hr111, r112, o113, al114⟩ := Row.app (P := Tryz.prog) (l := (O ++ [m37.h])) (l2 := [m37.n]) KInt elemInt r97 h107 hb115 (by unfold maxLen; omega) (size_only O116)
     have O117 : Only NoF w32 w85 := (Only.trans' o46 o87)
     refine Pl.MD (r_app hr111 Z rfl rfl) Z rfl rfl ?_ ?_
     · exact ⟨fun h => absurd h (by decide), (Only.trans (Only.trans (Only.trans (Only.trans (Only.refl (ownF (.slice Ao (O.length) co)) w32) o46 (fun _ h => h.elim)) o87 (fun _ h => h.elim)) o98 (fun _ h => .inl h)) o113 (fun k h => (app_F al99 h).elim (fun h => .inl h) (fun h => .inr (by rw [h]; exact (size_only O117)))))⟩
     clear Z az; intro az Z
     have ok118 : ∀ zq ∈ ((O ++ [m37.h]) ++ [m37.n]), KInt.ok zq := (fun x hx => (List.mem_append.1 hx).elim (ok102 x) ((Row.oks KInt h107) x))
     have h119 := Row.own KInt r112 ok118
     refine Pl.MSP (b := false) (by kernel_rfl) (fun W oW => r_as Z rfl) Z rfl rfl ?_; clear Z az; intro az Z
     refine wpPl_nil ?_
     refine hK31 _ _ ?_
     refine wp_region_lit ?_
     refine L (r_mv Z rfl) Z rfl ?_; clear Z az; intro az Z
     have i120 : I64 (((k : Int) + 1)) := by unfold I64; omega
     refine L (r_addI (r := ((k : Int) + 1)) Z rfl rfl rfl i120) Z rfl ?_; clear Z az; intro az Z
     refine L (r_as Z rfl) Z rfl ?_; clear Z az; intro az Z
     have O121 : Only NoF w w110 := (o_sg O116 o113 (Nat.le_refl _) (ownF_ge r97))
     have B122 := (Blk.only (Blk.only (Blk.k (Blk.k B34 o46) o87) o98 (ow_nb r89 (Blk.k (Blk.k B34 o46) o87) (by decide))) o113 (ow_nb r97 (Blk.only (Blk.k (Blk.k B34 o46) o87) o98 (ow_nb r89 (Blk.k (Blk.k B34 o46) o87) (by decide))) (by decide)))
     exact ⟨_, (by omega), k + 1, _, A108, c109, rfl, Z.cut ⟨rfl, rfl, rfl, trivial⟩, (by omega), (by rw [hO, take_succ_get hm38, flat2, flat2, List.flatMap_append, List.append_assoc]; rfl), ok118, O121, B122, (ow_low r112 (Nat.le_refl _))⟩
   ·
    obtain ⟨A123, w124, hw, hA, r125, o126⟩ := Row.made (w := w32) KInt (e := 3) ([m37.n] : List Int) (by simp only [List.length_cons, List.length_nil]; unfold maxLen; omega)
    refine Pl.MD (r_bs (z := .int .i64 (0)) (size := 1) (vs := [(0, .int .i64 (m37.n))]) (cs := List.flatMap KInt.cells [m37.n]) Tryz.underlying37 Tryz.sizeOf3 Tryz.zeroValue3 rfl (Fr.evalps Z rfl) (by kernel_rfl)) Z rfl rfl ?_ ?_
    · rw [← hw]; exact ⟨fun _ => o126, (Only.trans (Only.refl (ownF (.slice Ao (O.length) co)) w32) o126 (fun _ h => h.elim))⟩
    rw [← hw, ← hA]; clear Z az; intro az Z
    clear hw hA
    have ok127 : ∀ zq ∈ ([m37.n] : List Int), KInt.ok zq := by intro zq hx; simp only [List.mem_cons, List.not_mem_nil, or_false] at hx; rcases hx with rfl <;> first | exact ok39.2
    obtain ⟨A128, w129, hw, hA, r130, o131⟩ := Row.made (w := w124) KInt (e := 3) ([m37.h] : List Int) (by simp only [List.length_cons, List.length_nil]; unfold maxLen; omega)
    refine Pl.MD (r_bs (z := .int .i64 (0)) (size := 1) (vs := [(0, .int .i64 (m37.h))]) (cs := List.flatMap KInt.cells [m37.h]) Tryz.underlying37 Tryz.sizeOf3 Tryz.zeroValue3 rfl (Fr.evalps Z rfl) (by kernel_rfl)) Z rfl rfl ?_ ?_
    · rw [← hw]; exact ⟨fun h => absurd h (by decide), (Only.trans (Only.trans (Only.refl (ownF (.slice Ao (O.length) co)) w32) o126 (fun _ h => h.elim)) o131 (fun _ h => h.elim))⟩
    rw [← hw, ← hA]; clear Z az; intro az Z
    clear hw hA
    have ok132 : ∀ zq ∈ ([m37.h] : List Int), KInt.ok zq := by intro zq hx; simp only [List.mem_cons, List.not_mem_nil, or_false] at hx; rcases hx with rfl <;> first | exact ok39.1
    have r133 := (ow_k (ow_k r35 o126) o131)
    have h134 := Row.own KInt r130 ok132
    have h135 := SliceOf.pl h134
    have hb143 : (List.length (O) + List.length ([m37.h])) * 8 ≤ 140737488355328 := by (simp only [List.length_append, List.length_cons, List.length_nil]; omega)
    have O144 : Only NoF w w129 := (Only.trans' (Only.trans' O42 o126) o131)
    obtain ⟨A136, c137, w138, hr139, r140, o141, al142⟩ := Row.app (P := Tryz.prog) (l := O) (l2 := [m37.h]) KInt elemInt r133 h135 hb143 (by unfold maxLen; omega) (size_only O144)
    refine Pl.MD (r_app hr139 Z rfl rfl) Z rfl rfl ?_ ?_
    · exact ⟨fun h => absurd h (by decide), (Only.trans (Only.trans (Only.trans (Only.refl (ownF (.slice Ao (O.length) co)) w32) o126 (fun _ h => h.elim)) o131 (fun _ h => h.elim)) o141 (fun _ h => .inl h))⟩
    clear Z az; intro az Z
    have ok145 : ∀ zq ∈ (O ++ [m37.h]), KInt.ok zq := (fun x hx => (List.mem_append.1 hx).elim (okO x) ((Row.oks KInt h135) x))
    have h146 := Row.own KInt r140 ok145
    have h147 := Row.own KInt r125 ok127
    have h148 := (SliceOf.kp (SliceOf.kp h147 o131 (fun _ _ h => h) (fun _ _ _ _ h => h)) o141 (ge_F (ownF_lt rO) (size_only o33)) (fun _ _ _ _ h => h))
    have h149 := SliceOf.pl h148
    have hb157 : (List.length ((O ++ [m37.h])) + List.length ([m37.n])) * 8 ≤ 140737488355328 := by (simp only [List.length_append, List.length_cons, List.length_nil]; omega)
    have O158 : Only NoF w w138 := (o_sg O144 o141 (Nat.le_refl _) (ownF_ge rO))
    obtain ⟨A150, c151, w152, hr153, r154, o155, al156⟩ := Row.app (P := Tryz.prog) (l := (O ++ [m37.h])) (l2 := [m37.n]) KInt elemInt r140 h149 hb157 (by unfold maxLen; omega) (size_only O158)
    have O159 : Only NoF w32 w129 := (Only.trans' o126 o131)
    refine Pl.MD (r_app hr153 Z rfl rfl) Z rfl rfl ?_ ?_
    · exact ⟨fun h => absurd h (by decide), (Only.trans (Only.trans (Only.trans (Only.trans (Only.refl (ownF (.slice Ao (O.length) co)) w32) o126 (fun _ h => h.elim)) o131 (fun _ h => h.elim)) o141 (fun _ h => .inl h)) o155 (fun k h => (app_F al142 h).elim (fun h => .inl h) (fun h => .inr (by rw [h]; exact (size_only O159)))))⟩
    clear Z az; intro az Z
    have ok160 : ∀ zq ∈ ((O ++ [m37.h]) ++ [m37.n]), KInt.ok zq := (fun x hx => (List.mem_append.1 hx).elim (ok145 x) ((Row.oks KInt h149) x))
    have h161 := Row.own KInt r154 ok160
    refine Pl.MSP (b := false) (by kernel_rfl) (fun W oW => r_as Z rfl) Z rfl rfl ?_; clear Z az; intro az Z
    refine wpPl_nil ?_
    refine hK31 _ _ ?_
    refine wp_region_lit ?_
    refine L (r_mv Z rfl) Z rfl ?_; clear Z az; intro az Z
    have i162 : I64 (((k : Int) + 1)) := by unfold I64; omega
    refine L (r_addI (r := ((k : Int) + 1)) Z rfl rfl rfl i162) Z rfl ?_; clear Z az; intro az Z
    refine L (r_as Z rfl) Z rfl ?_; clear Z az; intro az Z
    have O163 : Only NoF w w152 := (o_sg O158 o155 (Nat.le_refl _) (ownF_ge r140))
    have B164 := (Blk.only (Blk.only (Blk.k (Blk.k B34 o126) o131) o141 (ow_nb r133 (Blk.k (Blk.k B34 o126) o131) (by decide))) o155 (ow_nb r140 (Blk.only (Blk.k (Blk.k B34 o126) o131) o141 (ow_nb r133 (Blk.k (Blk.k B34 o126) o131) (by decide))) (by decide)))
    exact ⟨_, (by omega), k + 1, _, A150, c151, rfl, Z.cut ⟨rfl, rfl, rfl, trivial⟩, (by omega), (by rw [hO, take_succ_get hm38, flat2, flat2, List.flatMap_append, List.append_assoc]; rfl), ok160, O163, B164, (ow_low r154 (Nat.le_refl _))⟩
  ·
   have p165 := of_decide_eq_false hc29
   refine wp_exit ?_
   refine th_exit ?_
   refine th_exit ?_
   refine ib_hit ?_
   refine hK19 _ _ (wp_seq_k fun K166 hK166 => ?_)
   refine reg_p NoF 5 [2, 5, 9, 12, 16] (.rd 0 (.rd 1 (.rd 3 (.rd 4 (.rd 7 (.rd 8 (.rd 11 (.rd 14 (.rd 15 (.ex 2 (.ex 5 (.rd 6 (.ex 9 (.rd 10 (.ex 12 (.rd 13 (.ex 16 (.rd 17 (.rd 18 (.rd 19 .nil)))))))))))))))))))) (by kernel_rfl) (by kernel_rfl) (fun _ _ _ _ _ h => h) fun w167 o168 => ?_
   have B169 := (Blk.k B26 o168)
   refine Pl.MSP (b := true) (by kernel_rfl) (fun W oW => r_fa (m' := 0) Tryz.underlying51 rfl Tryz.sizeOf3 rfl Z rfl rfl) Z rfl rfl ?_; clear Z az; intro az Z
   refine Pl.MSP (b := true) (by kernel_rfl) (fun W oW => r_ld Tryz.isAgg3 Z rfl ((Blk.ca (Blk.k B169 oW)) 0 _ rfl)) Z rfl rfl ?_; clear Z az; intro az Z
   refine Pl.MSP (b := true) (by kernel_rfl) (fun W oW => r_fa (m' := 1) Tryz.underlying51 rfl Tryz.sizeOf3 rfl Z rfl rfl) Z rfl rfl ?_; clear Z az; intro az Z
   refine Pl.MSP (b := true) (by kernel_rfl) (fun W oW => r_ld Tryz.isAgg3 Z rfl ((Blk.ca (Blk.k B169 oW)) 1 _ rfl)) Z rfl rfl ?_; clear Z az; intro az Z
   refine Pl.MSP (b := true) (by kernel_rfl) (fun W oW => r_fa (m' := 2) Tryz.underlying51 rfl Tryz.sizeOf3 rfl Z rfl rfl) Z rfl rfl ?_; clear Z az; intro az Z
   refine Pl.MSP (b := true) (by kernel_rfl) (fun W oW => r_ld Tryz.isAgg3 Z rfl ((Blk.ca (Blk.k B169 oW)) 2 _ rfl)) Z rfl rfl ?_; clear Z az; intro az Z
   refine Pl.MSP (b := true) (by kernel_rfl) (fun W oW => r_mv Z rfl) Z rfl rfl ?_; clear Z az; intro az Z
   refine Pl.MSP (b := true) (by kernel_rfl) (fun W oW => r_fa (m' := 4) Tryz.underlying51 rfl Tryz.sizeOf9 rfl Z rfl rfl) Z rfl rfl ?_; clear Z az; intro az Z
   refine Pl.MSP (b := true) (by kernel_rfl) (fun W oW => r_ld Tryz.isAgg9 Z rfl ((Blk.ca (Blk.k B169 oW)) 4 _ rfl)) Z rfl rfl ?_; clear Z az; intro az Z
   refine Pl.MSV (v := strV (Wr.numE m.h)) Z rfl rfl rfl Tryz.call72 (vNum_v _ m.h (wr_ok hk1.1)) rfl (fun w' o' => ⟨fun _ => o', (Only.trans (Only.refl NoF w167) o' (fun _ h => h.elim))⟩) fun w170 o171 => ?_; clear Z az; intro az Z
   refine Pl.MSV (v := strV (Wr.numE m.n)) Z rfl rfl rfl Tryz.call72 (vNum_v _ m.n (wr_ok hk1.2.1)) rfl (fun w' o' => ⟨fun _ => (Only.trans' o171 o'), (Only.trans (Only.trans (Only.refl NoF w167) o171 (fun _ h => h.elim)) o' (fun _ h => h.elim))⟩) fun w172 o173 => ?_; clear Z az; intro az Z
   refine Pl.MSP (b := true) (by kernel_rfl) (fun W oW => r_addS Z rfl rfl (by have e1 := numE_len (wr_ok hk1.1); have e2 := numE_len (wr_ok hk1.2.1); have e3 := numE_len (wr_ok hk1.2.2.1); have e4 := numsE_len (l := O) okO (by omega); have e5 := text_size2 (s := m.s) (by omega); (try simp only [List.length_append]); omega)) Z rfl rfl ?_; clear Z az; intro az Z
   refine Pl.MSV (v := strV (Wr.numE m.d)) Z rfl rfl rfl Tryz.call72 (vNum_v _ m.d (wr_ok hk1.2.2.1)) rfl (fun w' o' => ⟨fun _ => (Only.trans' (Only.trans' o171 o173) o'), (Only.trans (Only.trans (Only.trans (Only.refl NoF w167) o171 (fun _ h => h.elim)) o173 (fun _ h => h.elim)) o' (fun _ h => h.elim))⟩) fun w174 o175 => ?_; clear Z az; intro az Z
   refine Pl.MSP (b := true) (by kernel_rfl) (fun W oW => r_addS Z rfl rfl (by have e1 := numE_len (wr_ok hk1.1); have e2 := numE_len (wr_ok hk1.2.1); have e3 := numE_len (wr_ok hk1.2.2.1); have e4 := numsE_len (l := O) okO (by omega); have e5 := text_size2 (s := m.s) (by omega); (try simp only [List.length_append]); omega)) Z rfl rfl ?_; clear Z az; intro az Z
   have h176 := Row.own KInt rO okO
   have O177 : Only NoF w23 w174 := (Only.trans' (Only.trans' (Only.trans' o168 o171) o173) o175)
   have h178 := (SliceOf.kp h176 O177 (fun _ _ h => h) (fun _ _ _ _ h => h))
   have h179 := SliceOf.pl h178
   refine Pl.MSV (v := strV (Wr.numsE O)) Z rfl rfl rfl Tryz.call73 (vNums_v h179 (by omega) (ints_bytes (l := O) (Row.oks KInt h179) (by omega))) rfl (fun w' o' => ⟨fun _ => (Only.trans' (Only.trans' (Only.trans' o171 o173) o175) o'), (Only.trans (Only.trans (Only.trans (Only.trans (Only.refl NoF w167) o171 (fun _ h => h.elim)) o173 (fun _ h => h.elim)) o175 (fun _ h => h.elim)) o' (fun _ h => h.elim))⟩) fun w180 o181 => ?_; clear Z az; intro az Z
   refine Pl.MSP (b := true) (by kernel_rfl) (fun W oW => r_addS Z rfl rfl (by have e1 := numE_len (wr_ok hk1.1); have e2 := numE_len (wr_ok hk1.2.1); have e3 := numE_len (wr_ok hk1.2.2.1); have e4 := numsE_len (l := O) okO (by omega); have e5 := text_size2 (s := m.s) (by omega); (try simp only [List.length_append]); omega)) Z rfl rfl ?_; clear Z az; intro az Z
   refine Pl.MSV (v := strV (Wr.textE m.s)) Z rfl rfl rfl Tryz.call74 (vText_v _ m.s (by omega)) rfl (fun w' o' => ⟨fun _ => (Only.trans' (Only.trans' (Only.trans' (Only.trans' o171 o173) o175) o181) o'), (Only.trans (Only.trans (Only.trans (Only.trans (Only.trans (Only.refl NoF w167) o171 (fun _ h => h.elim)) o173 (fun _ h => h.elim)) o175 (fun _ h => h.elim)) o181 (fun _ h => h.elim)) o' (fun _ h => h.elim))⟩) fun w182 o183 => ?_; clear Z az; intro az Z
   refine Pl.MSP (b := true) (by kernel_rfl) (fun W oW => r_addS Z rfl rfl (by have e1 := numE_len (wr_ok hk1.1); have e2 := numE_len (wr_ok hk1.2.1); have e3 := numE_len (wr_ok hk1.2.2.1); have e4 := numsE_len (l := O) okO (by omega); have e5 := text_size2 (s := m.s) (by omega); (try simp only [List.length_append]); omega)) Z rfl rfl ?_; clear Z az; intro az Z
   refine Pl.MSP (b := true) (by kernel_rfl) (fun W oW => r_as Z rfl) Z rfl rfl ?_; clear Z az; intro az Z
   refine Pl.MSP (b := true) (by kernel_rfl) (fun W oW => r_as Z rfl) Z rfl rfl ?_; clear Z az; intro az Z
   refine wpPl_nil ?_
   refine hK166 _ _ ?_
   refine wp_ret ?_
   show bodyPost _ _ _ .ret _ _
   refine ret_of (vs := [strV (Wr.numE m.h ++ Wr.numE m.n ++ Wr.numE m.d ++ Wr.numsE O ++ Wr.textE m.s), .bool (true)]) Z Tryz.results41 ⟨rfl, rfl, trivial⟩ ?_
   have O184 : Only NoF w w182 := (Only.trans' (Only.trans' (Only.trans' (Only.trans' (Only.trans' (Only.trans' o24 o168) o171) o173) o175) o181) o183)
   rw [List.take_of_length_le (by omega)] at hO
   rw [hrt, if_pos rfl]; unfold encN; rw [← hO]; exact ⟨rfl, O184⟩
end
section
open Go.RowKit
theorem build_Note3 (h n d : Int) (w : World) : (Instr.build 51 #[(0, .int .i64 h), (1, .int .i64 n), (2, .int .i64 d)]).run Tryz.prog w = .ok (.agg #[.int .i64 h, .int .i64 n, .int .i64 d, .slice none 0 0, strV []]) w := by kernel_rfl
theorem pair_step {N : List Int} {O : List RM} {i : Nat} {a b : Int} (h : N = flat2 O ++ N.drop i) (h0 : N[i]? = some a) (h1 : N[i + 1]? = some b) : N = flat2 (O ++ [⟨a, b⟩]) ++ N.drop (i + 2) := by
 obtain ⟨k0, e0⟩ := List.getElem?_eq_some_iff.1 h0
 obtain ⟨k1, e1⟩ := List.getElem?_eq_some_iff.1 h1
 have : N.drop i = a :: b :: N.drop (i + 2) := by
  rw [List.drop_eq_getElem_cons k0, List.drop_eq_getElem_cons k1, e0, e1]
 conv => lhs; rw [h, this]
 unfold flat2
 rw [List.flatMap_append]
 simp
theorem tmod_drop {N : List Int} {i n : Nat} (hi : i = 2 * n) (h1 : i ≤ N.length) (h2 : N.length ≤ i + 1) : (!decide (Int.tmod ((N.length : Nat) : Int) 2 = 0)) = decide ((0 : Int) < (((N.drop i).length : Nat) : Int)) := by
 rw [List.length_drop]
 have e : Int.tmod ((N.length : Nat) : Int) 2 = ((N.length % 2 : Nat) : Int) := rfl
 rw [e]
 rcases Nat.eq_or_lt_of_le h1 with h | h
 · rw [decide_eq_true (by omega), decide_eq_false (by omega)]; rfl
 · rw [decide_eq_false (by omega), decide_eq_true (by omega)]; rfl
theorem rDecode_v {w : World} {t : Str} (ht : t.length ≤ 1000000) : Calls Tryz.prog 62 [strV t].toArray w (DecTo t w) := by
 refine calls_start Tryz.func62 rfl rfl ?_
 intro az Z
 rw [Tryz.ntmps62] at Z
 refine wp_seq_k fun K1 hK1 => wp_region_lit ?_
 refine LAl (v := .agg #[.int .i64 (0), .int .i64 (0), .int .i64 (0), .slice none (0) 0, strV ([])]) Tryz.zeroValue51 Z rfl rfl ?_
 clear Z az; intro g2 w3 hg6 hl7 o4 B5 az Z
 refine L (r_as Z rfl) Z rfl ?_; clear Z az; intro az Z
 refine hK1 _ _ (wp_seq_k fun K8 hK8 => wp_region_lit ?_)
 refine L (r_mv Z rfl) Z rfl ?_; clear Z az; intro az Z
 refine LC Z rfl rfl Tryz.call92 (vOpen_v _ t) rfl ?_
 rintro e w10 ⟨g9, rfl, hg11, B12, o13⟩; refine ⟨_, rfl, ?_⟩
 clear Z az; intro az Z
 refine L (r_as Z rfl) Z rfl ?_; clear Z az; intro az Z
 refine hK8 _ _ (wp_seq_k fun K14 hK14 => wp_region_lit ?_)
 refine L (r_mv Z rfl) Z rfl ?_; clear Z az; intro az Z
 refine LC Z rfl rfl Tryz.call95 (vrNum_v (s := (⟨t, false⟩ : Wr.Rd)) B12) rfl ?_
 rintro e w15 ⟨rfl, B16, o17⟩; refine ⟨_, rfl, ?_⟩
 clear Z az; intro az Z
 refine L (r_mv Z rfl) Z rfl ?_; clear Z az; intro az Z
 refine LC Z rfl rfl Tryz.call95 (vrNum_v (s := (Wr.num (⟨t, false⟩ : Wr.Rd)).2) B16) rfl ?_
 rintro e w18 ⟨rfl, B19, o20⟩; refine ⟨_, rfl, ?_⟩
 clear Z az; intro az Z
 refine L (r_mv Z rfl) Z rfl ?_; clear Z az; intro az Z
 refine LC Z rfl rfl Tryz.call95 (vrNum_v (s := (Wr.num ((Wr.num (⟨t, false⟩ : Wr.Rd)).2)).2) B19) rfl ?_
 rintro e w21 ⟨rfl, B22, o23⟩; refine ⟨_, rfl, ?_⟩
 clear Z az; intro az Z
 refine L (r_bd (v := .agg #[.int .i64 ((Wr.num (⟨t, false⟩ : Wr.Rd)).1), .int .i64 ((Wr.num ((Wr.num (⟨t, false⟩ : Wr.Rd)).2)).1), .int .i64 ((Wr.num ((Wr.num ((Wr.num (⟨t, false⟩ : Wr.Rd)).2)).2)).1), .slice none (0) 0, strV ([])]) (build_Note3 _ _ _) Z rfl) Z rfl ?_; clear Z az; intro az Z
 refine LAl (v := .agg #[.int .i64 (0), .int .i64 (0), .int .i64 (0), .slice none (0) 0, strV ([])]) Tryz.zeroValue51 Z rfl rfl ?_
 clear Z az; intro g24 w25 hg28 hl29 o26 B27 az Z
 refine LSt (cs' := [.int .i64 ((Wr.num (⟨t, false⟩ : Wr.Rd)).1), .int .i64 ((Wr.num ((Wr.num (⟨t, false⟩ : Wr.Rd)).2)).1), .int .i64 ((Wr.num ((Wr.num ((Wr.num (⟨t, false⟩ : Wr.Rd)).2)).2)).1), .slice none (0) 0, strV ([])]) Tryz.sizeOf51 Z rfl rfl rfl rfl rfl ⟨rfl, rfl, rfl, rfl, rfl, trivial⟩ B27 rfl rfl fun w30 s31 B32 => ?_
 refine hK14 _ _ (wp_seq_k fun K33 hK33 => wp_region_lit ?_)
 refine L (r_mv Z rfl) Z rfl ?_; clear Z az; intro az Z
 have O42 := (Only.trans (Only.trans (Only.trans (Only.refl (fun _ => True) w10) o17 (fun _ _ => .inl trivial)) o20 (fun _ _ => .inl trivial)) o23 (fun _ _ => .inl trivial))
 have ne41 : g9 ≠ g24 := (ne_of (Blk.lt B12) (Nat.le_trans (size_only O42) hg28))
 have B43 := (Blk.st (Blk.k B22 o26) s31 ne41)
 refine LC Z rfl rfl Tryz.call97 (vrNums_v (s := (Wr.num ((Wr.num ((Wr.num (⟨t, false⟩ : Wr.Rd)).2)).2)).2) B43 (Nat.le_trans (dlen_3 t) (by omega)) (dfine_3 t)) rfl ?_
 rintro e w34 ⟨A37, c38, rfl, r39, k40, B35, o36⟩; refine ⟨_, rfl, ?_⟩
 clear Z az; intro az Z
 refine L (r_as Z rfl) Z rfl ?_; clear Z az; intro az Z
 refine hK33 _ _ (wp_seq_k fun K44 hK44 => wp_region_lit ?_)
 refine L (r_mv Z rfl) Z rfl ?_; clear Z az; intro az Z
 refine LC Z rfl rfl Tryz.call94 (vrText_v (s := (Wr.nums ((Wr.num ((Wr.num ((Wr.num (⟨t, false⟩ : Wr.Rd)).2)).2)).2)).2) B35 (dfine_4 t)) rfl ?_
 rintro e w45 ⟨rfl, B46, o47⟩; refine ⟨_, rfl, ?_⟩
 clear Z az; intro az Z
 refine L (r_fa (m' := 4) Tryz.underlying51 rfl Tryz.sizeOf9 rfl Z rfl rfl) Z rfl ?_; clear Z az; intro az Z
 have ne48 : g24 ≠ g9 := (ne_of (Blk.lt B12) (Nat.le_trans (size_only O42) hg28)).symm
 have B49 := (Blk.st (Blk.st B32 o36 ne48) o47 ne48)
 refine LSt (cs' := [.int .i64 ((Wr.num (⟨t, false⟩ : Wr.Rd)).1), .int .i64 ((Wr.num ((Wr.num (⟨t, false⟩ : Wr.Rd)).2)).1), .int .i64 ((Wr.num ((Wr.num ((Wr.num (⟨t, false⟩ : Wr.Rd)).2)).2)).1), .slice none (0) 0, strV ((Wr.text ((Wr.nums ((Wr.num ((Wr.num ((Wr.num (⟨t, false⟩ : Wr.Rd)).2)).2)).2)).2)).1)]) Tryz.sizeOf9 Z rfl rfl rfl rfl rfl ⟨rfl, trivial⟩ B49 rfl rfl fun w50 s51 B52 => ?_
 refine hK44 _ _ (wp_seq_k fun K53 hK53 => ?_)
 refine wp_seq_k fun K54 hK54 => wp_region_lit ?_
 refine L (r_as Z rfl) Z rfl ?_; clear Z az; intro az Z
 refine hK54 _ _ ?_
 refine wp_block ?_
 have hNSl : List.length (d4 t).1 ≤ t.length := (Nat.le_trans (Wr.list_sizes Wr.int_was Wr.intE_ne (d3 t).2).1 (dlen_3 t))
 have O55 := (Only.trans (Only.trans (Only.trans (Only.trans (Only.trans (Only.refl (fun _ => True) w10) o17 (fun _ _ => .inl trivial)) o20 (fun _ _ => .inl trivial)) o23 (fun _ _ => .inl trivial)) o26 (fun _ _ => .inl trivial)) s31 (fun _ _ => .inl trivial))
 have O56 := (Only.trans (Only.refl (fun _ => True) w25) s31 (fun _ _ => .inl trivial))
 have r57 := (ow_only (ow_only r39 o47 (fun k hk => ge_F (oneF_lt (Blk.lt B12)) (size_only O55) k (ownF_ge r39 k hk))) s51 (fun k hk => ge_F (oneF_lt hl29) (size_only O56) k (ownF_ge (ow_only r39 o47 (fun k hk => ge_F (oneF_lt (Blk.lt B12)) (size_only O55) k (ownF_ge r39 k hk))) k hk)))
 have fr0 := SliceOf.sup (SliceOf.rg (Row.own KInt r57 k40)) (S' := lbB w50.heap.size g24) (fun q hq => ⟨hq.2, fun h => by have h1 := Nat.lt_of_lt_of_le (Nat.lt_of_lt_of_le hl29 (size_only O56)) hq.1; unfold oneF at h; omega⟩)
 have ne58 : g2 ≠ g9 := (ne_of hl7 hg11)
 have O60 : Only NoF w3 w21 := (o_sg (o_sg (o_sg o13 o17 (Nat.le_refl _) (oneF_ge hg11)) o20 (Nat.le_refl _) (oneF_ge hg11)) o23 (Nat.le_refl _) (oneF_ge hg11))
 have ne59 : g2 ≠ g24 := (ne_of hl7 (Nat.le_trans (size_only O60) hg28))
 have B61 := (Blk.st (Blk.st (Blk.st (Blk.st (Blk.k (Blk.st (Blk.st (Blk.st (Blk.k B5 o13) o17 ne58) o20 ne58) o23 ne58) o26) s31 ne59) o36 ne58) o47 ne58) s51 ne59)
 have B62 := (Blk.st B46 s51 ne41)
 refine wp_loop_m (fun mz az W => ∃ i : Nat, ∃ O : List RM, ∃ Ao : Option Addr, ∃ co : Nat, mz = List.length (d4 t).1 - i ∧ Fr 60 [(2, .pointer (some ((⟨g2, 0, none⟩ : Addr)))), (4, .pointer (some ((⟨g9, 0, none⟩ : Addr)))), (5, .pointer (some ((⟨g24, 0, none⟩ : Addr)))), (6, .slice A37 ((Wr.nums ((Wr.num ((Wr.num ((Wr.num (⟨t, false⟩ : Wr.Rd)).2)).2)).2)).1.length) c38), (7, .int .i64 ((i : Int))), (6, .slice A37 ((d4 t).1.length) c38)] az ∧ ((d4 t).1 = flat2 O ++ List.drop i (d4 t).1) ∧ (i = 2 * O.length) ∧ (∀ z ∈ O, KRef.ok z) ∧ Only (oneF g24) w50 W ∧ Blk W g24 51 [.int .i64 ((Wr.num (⟨t, false⟩ : Wr.Rd)).1), .int .i64 ((Wr.num ((Wr.num (⟨t, false⟩ : Wr.Rd)).2)).1), .int .i64 ((Wr.num ((Wr.num ((Wr.num (⟨t, false⟩ : Wr.Rd)).2)).2)).1), .slice Ao (O.length) co, strV ((Wr.text ((Wr.nums ((Wr.num ((Wr.num ((Wr.num (⟨t, false⟩ : Wr.Rd)).2)).2)).2)).2)).1)].toArray ∧ Blk W g2 51 [.int .i64 (0), .int .i64 (0), .int .i64 (0), .slice none (0) 0, strV ([])].toArray ∧ Blk W g9 136 [strV ((Wr.text ((Wr.nums ((Wr.num ((Wr.num ((Wr.num (⟨t, false⟩ : Wr.Rd)).2)).2)).2)).2)).2.r), .bool ((Wr.text ((Wr.nums ((Wr.num ((Wr.num ((Wr.num (⟨t, false⟩ : Wr.Rd)).2)).2)).2)).2)).2.b)].toArray ∧ SliceOf (lbB w50.heap.size g24) 1 KInt.R W (.slice A37 (List.length (d4 t).1) c38) (d4 t).1 ∧ W.ownsRow w50.heap.size 53 2 (.slice Ao O.length co) O.length (List.flatMap KRef.cells O)) ?_ ?_
 ·
  exact ⟨_, 0, [], none, 0, rfl, Z.cut ⟨rfl, rfl, rfl, rfl, rfl, rfl, trivial⟩, rfl, rfl, (fun z hz => by cases hz), (Only.refl (oneF g24) w50), B52, B61, B62, fr0, (World.ownsRow_nil _ _ _ _)⟩
 clear Z az
 rintro mz az w63 ⟨i, O, Ao, co, hm65, Z, hns, hi, okO, o64, B66, B67, B68, fr, rO⟩
 have hEl : (Wr.nums (Wr.num (Wr.num (Wr.num (⟨t, false⟩ : Wr.Rd)).2).2).2).1.length = List.length (d4 t).1 := rfl
 have hOl : List.length (d4 t).1 = 2 * O.length + (List.length (d4 t).1 - i) := by have := congrArg List.length hns; rwa [List.length_append, flat2_len, List.length_drop] at this
 refine wp_seq_k fun K69 hK69 => ?_
 refine wp_seq_k fun K70 hK70 => wp_region_lit ?_
 refine L (r_mv Z rfl) Z rfl ?_; clear Z az; intro az Z
 have i71 : I64 (((i : Int) + 1)) := by unfold I64; omega
 refine L (r_addI (r := ((i : Int) + 1)) Z rfl rfl rfl i71) Z rfl ?_; clear Z az; intro az Z
 refine L (r_mv Z rfl) Z rfl ?_; clear Z az; intro az Z
 refine L (r_lenL Tryz.underlying37 Z rfl) Z rfl ?_; clear Z az; intro az Z
 refine L (r_ltI Z rfl rfl) Z rfl ?_; clear Z az; intro az Z
 refine hK70 _ _ ?_
 refine br Z rfl (fun hc72 => ?_) (fun hc72 => ?_)
 ·
  have p73 := of_decide_eq_true hc72
  refine wp_skip ?_
  refine hK69 _ _ (wp_seq_k fun K74 hK74 => ?_)
  refine wp_block ?_
  refine reg_p (orF (ownF (.slice Ao (O.length) co)) (oneF g24)) 1 [12, 13, 15] (.rd 0 (.rd 1 (.rd 2 (.rd 3 (.rd 4 (.rd 5 (.rd 6 (.rd 7 (.rd 8 (.rd 9 (.rd 10 (.rd 11 (.ex 12 (.ex 13 (.rd 14 (.ex 15 .nil)))))))))))))))) (by kernel_rfl) (by kernel_rfl) (fun _ _ _ _ _ h => h) fun w75 o76 => ?_
  have B77 := (Blk.k B66 o76)
  refine Pl.MSP (b := false) (by kernel_rfl) (fun W oW => r_fa (m' := 3) Tryz.underlying51 rfl Tryz.sizeOf36 rfl Z rfl rfl) Z rfl rfl ?_; clear Z az; intro az Z
  refine Pl.MSP (b := true) (by kernel_rfl) (fun W oW => r_ld Tryz.isAgg36 Z rfl ((Blk.ca (Blk.k B77 oW)) 3 _ rfl)) Z rfl rfl ?_; clear Z az; intro az Z
  refine Pl.MSP (b := false) (by kernel_rfl) (fun W oW => r_mv Z rfl) Z rfl rfl ?_; clear Z az; intro az Z
  refine Pl.MSP (b := false) (by kernel_rfl) (fun W oW => r_mv Z rfl) Z rfl rfl ?_; clear Z az; intro az Z
  have hk78 : i < ((d4 t).1).length := by omega
  have h84 := (SliceOf.kp fr o76 (fun _ _ h => h) (fun _ _ _ _ h => h))
  obtain ⟨m79, hm80, ok81, hA82⟩ := Row.el KInt h84 hk78
  have E83 : ∀ W, Only NoF w75 W → CA W (eA A37 1 (i)) [.int .i64 (m79)] := Row.ce KInt h84 hm80 rfl
  refine Pl.MSP (b := false) (by kernel_rfl) (fun W oW => r_ia (k := i) (size := 1) Tryz.underlying37 Tryz.sizeOf3 Z rfl rfl rfl hk78 hA82) Z rfl rfl ?_; clear Z az; intro az Z
  refine Pl.MSP (b := false) (by kernel_rfl) (fun W oW => r_ld Tryz.isAgg3 Z rfl (CA.first (Row.ce KInt (SliceOf.kp h84 oW (fun k hk h => h.elim (fun h => Nat.lt_irrefl _ (Nat.lt_of_lt_of_le hk.1 ((ownF_ge rO) k h))) (fun h => hk.2 h)) (fun _ _ _ _ h => h)) hm80 rfl _ (Only.refl NoF _)))) Z rfl rfl ?_; clear Z az; intro az Z
  refine Pl.MSP (b := false) (by kernel_rfl) (fun W oW => r_mv Z rfl) Z rfl rfl ?_; clear Z az; intro az Z
  refine Pl.MSP (b := false) (by kernel_rfl) (fun W oW => r_mv Z rfl) Z rfl rfl ?_; clear Z az; intro az Z
  have i85 : I64 (((i : Int) + 1)) := by unfold I64; omega
  refine Pl.MSP (b := false) (by kernel_rfl) (fun W oW => r_addI (r := ((i : Int) + 1)) Z rfl rfl rfl i85) Z rfl rfl ?_; clear Z az; intro az Z
  have hk86 : (i + 1) < ((d4 t).1).length := by omega
  obtain ⟨m87, hm88, ok89, hA90⟩ := Row.el KInt h84 hk86
  have E91 : ∀ W, Only NoF w75 W → CA W (eA A37 1 ((i + 1))) [.int .i64 (m87)] := Row.ce KInt h84 hm88 rfl
  refine Pl.MSP (b := false) (by kernel_rfl) (fun W oW => r_ia (k := (i + 1)) (size := 1) Tryz.underlying37 Tryz.sizeOf3 Z rfl rfl rfl hk86 hA90) Z rfl rfl ?_; clear Z az; intro az Z
  refine Pl.MSP (b := false) (by kernel_rfl) (fun W oW => r_ld Tryz.isAgg3 Z rfl (CA.first (Row.ce KInt (SliceOf.kp h84 oW (fun k hk h => h.elim (fun h => Nat.lt_irrefl _ (Nat.lt_of_lt_of_le hk.1 ((ownF_ge rO) k h))) (fun h => hk.2 h)) (fun _ _ _ _ h => h)) hm88 rfl _ (Only.refl NoF _)))) Z rfl rfl ?_; clear Z az; intro az Z
  refine Pl.MSP (b := true) (by kernel_rfl) (fun W oW => r_bd (v := .agg #[.int .i64 (m79), .int .i64 (m87)]) (build_Ref2 _ _) Z rfl) Z rfl rfl ?_; clear Z az; intro az Z
  obtain ⟨A92, w93, hw, hA, r94, o95⟩ := Row.made (w := w75) KRef (e := 53) ([(⟨m79, m87⟩ : RM)] : List RM) (by simp only [List.length_cons, List.length_nil]; unfold maxLen; omega)
  refine Pl.MD (r_bs (z := .agg #[.int .i64 (0), .int .i64 (0)]) (size := 2) (vs := [(0, .agg #[.int .i64 (m79), .int .i64 (m87)])]) (cs := List.flatMap KRef.cells [(⟨m79, m87⟩ : RM)]) Tryz.underlying36 Tryz.sizeOf53 Tryz.zeroValue53 rfl (Fr.evalps Z rfl) (by kernel_rfl)) Z rfl rfl ?_ ?_
  · rw [← hw]; exact ⟨fun _ => o95, (Only.trans (Only.refl (orF (ownF (.slice Ao (O.length) co)) (oneF g24)) w75) o95 (fun _ h => h.elim))⟩
  rw [← hw, ← hA]; clear Z az; intro az Z
  clear hw hA
  have ok96 : ∀ zq ∈ ([(⟨m79, m87⟩ : RM)] : List RM), KRef.ok zq := by intro zq hx; simp only [List.mem_cons, List.not_mem_nil, or_false] at hx; rcases hx with rfl <;> first | exact ⟨ok81, ok89⟩
  have r97 := (ow_k (ow_k rO o76) o95)
  have h98 := Row.own KRef r94 ok96
  have h99 := SliceOf.pl h98
  have hb107 : (List.length (O) + List.length ([(⟨m79, m87⟩ : RM)])) * 16 ≤ 140737488355328 := by simp only [List.length_cons, List.length_nil]; omega
  have O108 := (Only.trans (Only.trans (Only.trans (Only.refl (fun _ => True) w50) o64 (fun _ _ => .inl trivial)) o76 (fun _ _ => .inl trivial)) o95 (fun _ _ => .inl trivial))
  obtain ⟨A100, c101, w102, hr103, r104, o105, al106⟩ := Row.app (P := Tryz.prog) (l := O) (l2 := [(⟨m79, m87⟩ : RM)]) KRef elemRef r97 h99 hb107 (by unfold maxLen; omega) (size_only O108)
  refine Pl.MD (r_app hr103 Z rfl rfl) Z rfl rfl ?_ ?_
  · exact ⟨fun h => absurd h (by decide), (Only.trans (Only.trans (Only.refl (orF (ownF (.slice Ao (O.length) co)) (oneF g24)) w75) o95 (fun _ h => h.elim)) o105 (fun _ h => .inl (.inl h)))⟩
  clear Z az; intro az Z
  have ok109 : ∀ zq ∈ (O ++ [(⟨m79, m87⟩ : RM)]), KRef.ok zq := (fun x hx => (List.mem_append.1 hx).elim (okO x) ((Row.oks KRef h99) x))
  have h110 := Row.own KRef r104 ok109
  refine Pl.MSP (b := false) (by kernel_rfl) (fun W oW => r_fa (m' := 3) Tryz.underlying51 rfl Tryz.sizeOf36 rfl Z rfl rfl) Z rfl rfl ?_; clear Z az; intro az Z
  have B111 := (Blk.only (Blk.k B77 o95) o105 (ow_nb r97 (Blk.k B77 o95) (by decide)))
  refine Pl.MSS (cs' := [.int .i64 ((Wr.num (⟨t, false⟩ : Wr.Rd)).1), .int .i64 ((Wr.num ((Wr.num (⟨t, false⟩ : Wr.Rd)).2)).1), .int .i64 ((Wr.num ((Wr.num ((Wr.num (⟨t, false⟩ : Wr.Rd)).2)).2)).1), .slice A100 (((O ++ [(⟨m79, m87⟩ : RM)])).length) c101, strV ((Wr.text ((Wr.nums ((Wr.num ((Wr.num ((Wr.num (⟨t, false⟩ : Wr.Rd)).2)).2)).2)).2)).1)]) Tryz.sizeOf36 Z rfl rfl rfl rfl rfl rfl ⟨rfl, trivial⟩ B111 rfl rfl fun w112 s113 B114 => ?_
  refine ⟨⟨fun h => absurd h (by decide), (Only.trans (Only.trans (Only.trans (Only.refl (orF (ownF (.slice Ao (O.length) co)) (oneF g24)) w75) o95 (fun _ h => h.elim)) o105 (fun _ h => .inl (.inl h))) s113 (fun _ h => .inl (.inr h)))⟩, ?_⟩
  refine wpPl_nil ?_
  refine hK74 _ _ ?_
  refine wp_region_lit ?_
  refine L (r_mv Z rfl) Z rfl ?_; clear Z az; intro az Z
  have i115 : I64 (((i : Int) + 2)) := by unfold I64; omega
  refine L (r_addI (r := ((i : Int) + 2)) Z rfl rfl rfl i115) Z rfl ?_; clear Z az; intro az Z
  refine L (r_as Z rfl) Z rfl ?_; clear Z az; intro az Z
  have B116 := (Blk.st (Blk.only (Blk.k (Blk.k B67 o76) o95) o105 (ow_nb r97 (Blk.k (Blk.k B67 o76) o95) (by decide))) s113 ne59)
  have B117 := (Blk.st (Blk.only (Blk.k (Blk.k B68 o76) o95) o105 (ow_nb r97 (Blk.k (Blk.k B68 o76) o95) (by decide))) s113 ne41)
  have h118 := (SliceOf.kp (SliceOf.kp (SliceOf.kp h84 o95 (fun _ _ h => h) (fun _ _ _ _ h => h)) o105 (fun k hk h => Nat.lt_irrefl _ (Nat.lt_of_lt_of_le hk.1 ((ownF_ge rO) k h))) (fun _ _ _ _ h => h)) s113 (fun k hk h => hk.2 h) (fun _ _ _ _ h => h))
  have O119 := (Only.trans (Only.trans (Only.trans (Only.trans (Only.refl (fun _ => True) w25) s31 (fun _ _ => .inl trivial)) o36 (fun _ _ => .inl trivial)) o47 (fun _ _ => .inl trivial)) s51 (fun _ _ => .inl trivial))
  have r120 := (ow_only r104 s113 (fun k hk => ge_F (oneF_lt hl29) (size_only O119) k (ownF_ge r104 k hk)))
  exact ⟨_, (by omega), i + 2, _, A100, c101, rfl, Z.cut ⟨rfl, rfl, rfl, rfl, rfl, rfl, trivial⟩, (pair_step hns hm80 hm88), (by rw [List.length_append, hi]; rfl), ok109, (Only.trans (Only.trans (Only.trans (Only.trans (Only.trans (Only.refl (oneF g24) w50) o64 (fun _ h => .inl h)) o76 (fun _ h => h.elim)) o95 (fun _ h => h.elim)) o105 (fun k h => .inr (Nat.le_trans (Nat.le_refl _) ((ownF_ge rO) k h)))) s113 (fun _ h => .inl h)), B114, B116, B117, h118, (ow_low r120 (Nat.le_refl _))⟩
 ·
  have p121 := of_decide_eq_false hc72
  refine wp_exit ?_
  refine th_exit ?_
  refine th_exit ?_
  refine ib_hit ?_
  refine hK53 _ _ (wp_seq_k fun K122 hK122 => ?_)
  refine wp_seq_k fun K123 hK123 => wp_region_lit ?_
  refine L (r_mv Z rfl) Z rfl ?_; clear Z az; intro az Z
  refine LCV (v := .bool (Wr.done ((Wr.text ((Wr.nums ((Wr.num ((Wr.num ((Wr.num (⟨t, false⟩ : Wr.Rd)).2)).2)).2)).2)).2))) Z rfl rfl Tryz.call98 (vrDone_v (s := (Wr.text ((Wr.nums ((Wr.num ((Wr.num ((Wr.num (⟨t, false⟩ : Wr.Rd)).2)).2)).2)).2)).2) B68) rfl fun w124 o125 => ?_; clear Z az; intro az Z
  refine L (r_not Z rfl) Z rfl ?_; clear Z az; intro az Z
  refine L (r_mv Z rfl) Z rfl ?_; clear Z az; intro az Z
  refine LG Z rfl rfl gd_f (fun hb => r_mv Z rfl) rfl ?_; clear Z az; intro az Z
  refine LG Z rfl rfl gd_f (fun hb => r_lenL Tryz.underlying37 Z (evg hb rfl)) rfl ?_; clear Z az; intro az Z
  refine LG Z rfl rfl gd_f (fun hb => r_remI Z (evg hb rfl) rfl (by decide)) rfl ?_; clear Z az; intro az Z
  refine LG Z rfl rfl gd_f (fun hb => r_neI Z (evg hb rfl) rfl) rfl ?_; clear Z az; intro az Z
  refine L (r_or Z rfl rfl rfl) Z rfl ?_; clear Z az; intro az Z
  refine L (r_mv Z rfl) Z rfl ?_; clear Z az; intro az Z
  have B126 := (Blk.k B66 o125)
  refine LG Z rfl rfl gd_f (fun hb => r_ldA Tryz.isAgg51 Tryz.sizeOf51 Z rfl (Blk.ca B126) rfl) rfl ?_; clear Z az; intro az Z
  have h127 := Row.own KRef rO okO
  have h128 := (SliceOf.kp h127 o125 (fun _ _ h => h) (fun _ _ _ _ h => h))
  have h129 := SliceOf.pl h128
  refine LGV (v := .bool (right (⟨(Wr.num (⟨t, false⟩ : Wr.Rd)).1, (Wr.num ((Wr.num (⟨t, false⟩ : Wr.Rd)).2)).1, (Wr.num ((Wr.num ((Wr.num (⟨t, false⟩ : Wr.Rd)).2)).2)).1, Ao, O, co, (Wr.text ((Wr.nums ((Wr.num ((Wr.num ((Wr.num (⟨t, false⟩ : Wr.Rd)).2)).2)).2)).2)).1⟩ : NM))) Z rfl rfl gd_f rfl (fun hb => (evs_c (evg hb rfl) rfl)) Tryz.call63 (fun hb => rRight_v (m := (⟨(Wr.num (⟨t, false⟩ : Wr.Rd)).1, (Wr.num ((Wr.num (⟨t, false⟩ : Wr.Rd)).2)).1, (Wr.num ((Wr.num ((Wr.num (⟨t, false⟩ : Wr.Rd)).2)).2)).1, Ao, O, co, (Wr.text ((Wr.nums ((Wr.num ((Wr.num ((Wr.num (⟨t, false⟩ : Wr.Rd)).2)).2)).2)).2)).1⟩ : NM)) h129) rfl fun w130 o131 => ?_; clear Z az; intro az Z
  refine LG Z rfl rfl gd_f (fun hb => r_not Z (evg hb rfl)) rfl ?_; clear Z az; intro az Z
  refine L (r_or Z rfl rfl rfl) Z rfl ?_; clear Z az; intro az Z
  refine hK123 _ _ ?_
  refine br Z rfl (fun hc132 => ?_) (fun hc132 => ?_)
  ·
   have d133 := hc132
   refine wp_seq_k fun K134 hK134 => wp_region_lit ?_
   refine L (r_bd (v := .agg #[.int .i64 (0), .int .i64 (0), .int .i64 (0), .slice none (0) 0, strV ([])]) (build_Note0) Z rfl) Z rfl ?_; clear Z az; intro az Z
   have B135 := (Blk.k (Blk.k B67 o125) o131)
   refine LSt (cs' := [.int .i64 (0), .int .i64 (0), .int .i64 (0), .slice none (0) 0, strV ([])]) Tryz.sizeOf51 Z rfl rfl rfl rfl rfl ⟨rfl, rfl, rfl, rfl, rfl, trivial⟩ B135 rfl rfl fun w136 s137 B138 => ?_
   refine L (r_as Z rfl) Z rfl ?_; clear Z az; intro az Z
   refine hK134 _ _ ?_
   refine wp_ret ?_
   show bodyPost _ _ _ .ret _ _
   refine ret_of (vs := [.agg #[.int .i64 (0), .int .i64 (0), .int .i64 (0), .slice none (0) 0, strV ([])], .bool (false)]) Z Tryz.results62 ⟨⟨_, rfl, l_ca Tryz.isAgg51 Tryz.sizeOf51 (Blk.ca B138) rfl⟩, rfl, trivial⟩ ?_
   have O139 : Only NoF w w21 := (o_sg (o_sg (o_sg (Only.trans' o4 o13) o17 (size_only o4) (oneF_ge hg11)) o20 (size_only o4) (oneF_ge hg11)) o23 (size_only o4) (oneF_ge hg11))
   have O140 : Only NoF w w136 := (o_sg (Only.trans' (Only.trans' (o_sg (o_sg (o_sg (o_sg (o_sg (Only.trans' (o_sg (o_sg (o_sg (Only.trans' o4 o13) o17 (size_only o4) (oneF_ge hg11)) o20 (size_only o4) (oneF_ge hg11)) o23 (size_only o4) (oneF_ge hg11)) o26) s31 (size_only O139) (oneF_ge hg28)) o36 (size_only o4) (oneF_ge hg11)) o47 (size_only o4) (oneF_ge hg11)) s51 (size_only O139) (oneF_ge hg28)) o64 (size_only O139) (oneF_ge hg28)) o125) o131) s137 (Nat.le_refl _) (oneF_ge hg6))
   have hpr := pairs_of hns (by rw [List.length_drop]; omega)
   have hcn := hc132
   rw [tmod_drop (i := i) (n := O.length) (N := (d4 t).1) hi (by omega) (by omega)] at hcn
   have hdo := dec_ok (t := t) hpr hcn
   exact ⟨_, by rw [hdo]; rfl, O140, .inl ⟨hdo, rfl⟩⟩
  ·
   have q141 : Wr.done ((Wr.text ((Wr.nums ((Wr.num ((Wr.num ((Wr.num (⟨t, false⟩ : Wr.Rd)).2)).2)).2)).2)).2) = true := (nt_f (or_f (or_f hc132).1).1)
   have p142 := of_decide_eq_true (nt_f (or_f (or_f hc132).1).2)
   have q143 : right (⟨(Wr.num (⟨t, false⟩ : Wr.Rd)).1, (Wr.num ((Wr.num (⟨t, false⟩ : Wr.Rd)).2)).1, (Wr.num ((Wr.num ((Wr.num (⟨t, false⟩ : Wr.Rd)).2)).2)).1, Ao, O, co, (Wr.text ((Wr.nums ((Wr.num ((Wr.num ((Wr.num (⟨t, false⟩ : Wr.Rd)).2)).2)).2)).2)).1⟩ : NM) = true := (nt_f (or_f hc132).2)
   refine wp_skip ?_
   refine hK122 _ _ (wp_seq_k fun K144 hK144 => wp_region_lit ?_)
   have B145 := (Blk.k B126 o131)
   refine L (r_ldA Tryz.isAgg51 Tryz.sizeOf51 Z rfl (Blk.ca B145) rfl) Z rfl ?_; clear Z az; intro az Z
   have B146 := (Blk.k (Blk.k B67 o125) o131)
   refine LSt (cs' := [.int .i64 ((Wr.num (⟨t, false⟩ : Wr.Rd)).1), .int .i64 ((Wr.num ((Wr.num (⟨t, false⟩ : Wr.Rd)).2)).1), .int .i64 ((Wr.num ((Wr.num ((Wr.num (⟨t, false⟩ : Wr.Rd)).2)).2)).1), .slice Ao (O.length) co, strV ((Wr.text ((Wr.nums ((Wr.num ((Wr.num ((Wr.num (⟨t, false⟩ : Wr.Rd)).2)).2)).2)).2)).1)]) Tryz.sizeOf51 Z rfl rfl rfl rfl rfl ⟨rfl, rfl, rfl, rfl, rfl, trivial⟩ B146 rfl rfl fun w147 s148 B149 => ?_
   refine L (r_as Z rfl) Z rfl ?_; clear Z az; intro az Z
   refine hK144 _ _ ?_
   refine wp_ret ?_
   show bodyPost _ _ _ .ret _ _
   refine ret_of (vs := [.agg #[.int .i64 ((Wr.num (⟨t, false⟩ : Wr.Rd)).1), .int .i64 ((Wr.num ((Wr.num (⟨t, false⟩ : Wr.Rd)).2)).1), .int .i64 ((Wr.num ((Wr.num ((Wr.num (⟨t, false⟩ : Wr.Rd)).2)).2)).1), .slice Ao (O.length) co, strV ((Wr.text ((Wr.nums ((Wr.num ((Wr.num ((Wr.num (⟨t, false⟩ : Wr.Rd)).2)).2)).2)).2)).1)], .bool (true)]) Z Tryz.results62 ⟨⟨_, rfl, l_ca Tryz.isAgg51 Tryz.sizeOf51 (Blk.ca B149) rfl⟩, rfl, trivial⟩ ?_
   have O150 : Only NoF w w21 := (o_sg (o_sg (o_sg (Only.trans' o4 o13) o17 (size_only o4) (oneF_ge hg11)) o20 (size_only o4) (oneF_ge hg11)) o23 (size_only o4) (oneF_ge hg11))
   have O151 : Only NoF w w147 := (o_sg (Only.trans' (Only.trans' (o_sg (o_sg (o_sg (o_sg (o_sg (Only.trans' (o_sg (o_sg (o_sg (Only.trans' o4 o13) o17 (size_only o4) (oneF_ge hg11)) o20 (size_only o4) (oneF_ge hg11)) o23 (size_only o4) (oneF_ge hg11)) o26) s31 (size_only O150) (oneF_ge hg28)) o36 (size_only o4) (oneF_ge hg11)) o47 (size_only o4) (oneF_ge hg11)) s51 (size_only O150) (oneF_ge hg28)) o64 (size_only O150) (oneF_ge hg28)) o125) o131) s148 (Nat.le_refl _) (oneF_ge hg6))
   have hpr := pairs_of hns (by rw [List.length_drop]; omega)
   have hcn := hc132
   rw [tmod_drop (i := i) (n := O.length) (N := (d4 t).1) hi (by omega) (by omega)] at hcn
   have hdo := dec_ok (t := t) hpr hcn
   have O152 : Only NoF w3 w50 := (o_sg (o_sg (o_sg (o_sg (Only.trans' O60 o26) s31 (size_only O60) (oneF_ge hg28)) o36 (Nat.le_refl _) (oneF_ge hg11)) o47 (Nat.le_refl _) (oneF_ge hg11)) s51 (size_only O60) (oneF_ge hg28))
   have r153 := (ow_only (ow_k (ow_k rO o125) o131) s148 (fun k hk => ge_F (oneF_lt hl7) (size_only O152) k (ownF_ge (ow_k (ow_k rO o125) o131) k hk)))
   have O154 : Only NoF w w50 := (o_sg (o_sg (o_sg (o_sg (Only.trans' O150 o26) s31 (size_only O150) (oneF_ge hg28)) o36 (size_only o4) (oneF_ge hg11)) o47 (size_only o4) (oneF_ge hg11)) s51 (size_only O150) (oneF_ge hg28))
   exact ⟨noteV (⟨(Wr.num (⟨t, false⟩ : Wr.Rd)).1, (Wr.num ((Wr.num (⟨t, false⟩ : Wr.Rd)).2)).1, (Wr.num ((Wr.num ((Wr.num (⟨t, false⟩ : Wr.Rd)).2)).2)).1, Ao, O, co, (Wr.text ((Wr.nums ((Wr.num ((Wr.num ((Wr.num (⟨t, false⟩ : Wr.Rd)).2)).2)).2)).2)).1⟩ : NM), by rw [hdo]; rfl, O151, .inr ⟨hdo, (⟨(Wr.num (⟨t, false⟩ : Wr.Rd)).1, (Wr.num ((Wr.num (⟨t, false⟩ : Wr.Rd)).2)).1, (Wr.num ((Wr.num ((Wr.num (⟨t, false⟩ : Wr.Rd)).2)).2)).1, Ao, O, co, (Wr.text ((Wr.nums ((Wr.num ((Wr.num ((Wr.num (⟨t, false⟩ : Wr.Rd)).2)).2)).2)).2)).1⟩ : NM), rfl, rfl, rfl, rfl, hpr.1.symm, rfl, ⟨(ok_wr (Wr.number_int _ _ _)), (ok_wr (Wr.number_int _ _ _)), (ok_wr (Wr.number_int _ _ _)), (SliceOf.pl (Row.own KRef r153 okO)), (dtxt t (by omega))⟩, (SliceOf.sup (Row.own KRef r153 okO) (fun k hk => Nat.le_trans (size_only O154) hk))⟩⟩
end
end Go.Proofs.YtdegmpigkgkafaaGreatDoor
