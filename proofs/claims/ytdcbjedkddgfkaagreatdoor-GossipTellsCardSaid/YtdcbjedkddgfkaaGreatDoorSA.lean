/-
  The seal's notes: in memory, and what the chapter's functions compute of them. No condition.
  The seal: below, known, Right, walked. No condition.
  The seal: Same, Convicts, Check, the reference's Few, Plain, Same, Less, walked. No condition.
  slices.Clone at the element types of this translation. Condition: at most 100,000,000 elements.
  The seal: Encode, walked. No condition but the listed variables.
  The seal: Clone of refs and notes, Next, walked. Condition: at most 1000 of each.
  The seal: Decode, walked. Condition: at most 1,000,000 bytes.
  The seal: a note's encoding is decoded; small, walked. No condition but the listed variables.
  The seal: what is decoded has the string as its encoding. No condition.
-/
import Derived.Test.YtdcbjedkddgfkaaGreatDoorWU
import Derived.Test.YtdcbjedkddgfkaaGreatDoorMem
import Derived.KernelRfl
import Derived.WalkSpells
import Derived.Test.YtdcbjedkddgfkaaGreatDoorWQ
import Derived.Test.YtdcbjedkddgfkaaGreatDoorWir5
namespace Go.Proofs.YtdcbjedkddgfkaaGreatDoor
set_option maxHeartbeats 4000000
set_option maxRecDepth 20000
set_option linter.unusedVariables false
set_option linter.unusedSimpArgs false
set_option linter.unusedSectionVars false
set_option maxRecDepth 20000
section
open Go.RowKit
structure RM where
 h : Int
 n : Int
deriving DecidableEq
/-- a note, its needs as they lie -/
structure NM where
 h : Int
 n : Int
 d : Int
 A : Option Addr
 l : List RM
 c : Nat
 s : Str
def KRef : Row RM := ⟨2, fun m => [.int .i64 m.h, .int .i64 m.n], fun m => I64 m.h ∧ I64 m.n, fun _ => rfl, by decide, fun x u hu => by
 simp at hu
 rcases hu with rfl | rfl <;> rfl⟩
abbrev RefsV (w : World) (v : Value) (l : List RM) : Prop := SliceOf AllB 2 KRef.R w v l
def KNote (w : World) : Row NM := ⟨5, fun m => [.int .i64 m.h, .int .i64 m.n, .int .i64 m.d, .slice m.A m.l.length m.c, strV m.s],
 fun m => I64 m.h ∧ I64 m.n ∧ I64 m.d ∧ RefsV w (.slice m.A m.l.length m.c) m.l ∧ m.s.length ≤ maxLen, fun _ => rfl, by decide, fun x u hu => by
 simp at hu
 rcases hu with rfl | rfl | rfl | rfl | rfl <;> rfl⟩
abbrev NotesV (w0 w : World) (v : Value) (l : List NM) : Prop := SliceOf AllB 5 (KNote w0).R w v l
theorem elemRef : ElemIs Tryz.prog 35 59 2 16 := by
 obtain ⟨i, h1, h2, h3, h4⟩ := info_parts (show (Tryz.prog.info? 59).map (fun i => (i.zero, i.size, i.bytes)) = some (some (.agg #[.int .i64 0, .int .i64 0]), 2, 16) by kernel_rfl)
 exact ⟨Tryz.underlying35, i, _, h1, h2, h3, h4, rfl⟩
theorem elemNote : ElemIs Tryz.prog 22 43 5 64 := by
 obtain ⟨i, h1, h2, h3, h4⟩ := info_parts (show (Tryz.prog.info? 43).map (fun i => (i.zero, i.size, i.bytes)) = some (some (.agg #[.int .i64 0, .int .i64 0, .int .i64 0, .slice none 0 0, strV []]), 5, 64) by kernel_rfl)
 exact ⟨Tryz.underlying22, i, _, h1, h2, h3, h4, rfl⟩
theorem build_Ref1 (h : Int) (w : World) : (Instr.build 59 #[(0, .int .i64 h)]).run Tryz.prog w = .ok (.agg #[.int .i64 h, .int .i64 0]) w := by kernel_rfl
theorem build_Ref2 (h n : Int) (w : World) : (Instr.build 59 #[(0, .int .i64 h), (1, .int .i64 n)]).run Tryz.prog w = .ok (.agg #[.int .i64 h, .int .i64 n]) w := by kernel_rfl
/-! ### what is computed -/
def bel (n k : Int) : Bool := decide (0 ≤ n) && decide (n < k)
def kn (h n : Int) : Bool := bel h 400 && bel n 400
def refGt (h n ph pn : Int) : Bool := decide (ph < h) || (decide (h = ph) && decide (pn < n))
def refOk (h n : Int) (p r : RM) : Bool := !(((!kn r.h r.n) || (!refGt r.h r.n p.h p.n)) || (decide (r.h = h) && decide (n ≤ r.n)))
def refsOk (h n : Int) : RM → List RM → Bool
 | _, [] => true
 | p, r :: l => refOk h n p r && refsOk h n r l
def headBad (m : NM) : Bool := ((((!kn m.h m.n) || (!bel m.d 100001)) || decide ((8000 : Int) < ((m.s.length : Nat) : Int))) || decide ((40 : Int) < ((m.l.length : Nat) : Int)))
def right (m : NM) : Bool := !headBad m && refsOk m.h m.n ⟨-1, 0⟩ m.l
theorem refsOk_drop {h n : Int} {p r : RM} {l : List RM} {k : Nat} (hr : l[k]? = some r) : refsOk h n p (l.drop k) = (refOk h n p r && refsOk h n r (l.drop (k + 1))) := by
 obtain ⟨hk, rfl⟩ := List.getElem?_eq_some_iff.1 hr
 rw [List.drop_eq_getElem_cons hk]; rfl
theorem right_bad {m : NM} (h : headBad m = true) : right m = false := by unfold right; rw [h]; rfl
theorem right_of {m : NM} {p : RM} {k : Nat} {b : Bool} (h : headBad m = false) (hk : refsOk m.h m.n ⟨-1, 0⟩ m.l = refsOk m.h m.n p (m.l.drop k)) (hb : refsOk m.h m.n p (m.l.drop k) = b) : right m = b := by
 unfold right; rw [h, hk, hb]; rfl
/-- notes that spell the same -/
def same (m m2 : NM) : Bool := decide (m.h = m2.h) && decide (m.n = m2.n) && decide (m.d = m2.d) && decide (m.l = m2.l) && decide (m.s = m2.s)
def convicts (m m2 : NM) : Bool := right m && right m2 && decide (m.h = m2.h) && decide (m.n = m2.n) && !same m m2
end
section
open Go.RowKit
theorem below_v (w : World) (n k : Int) : Calls Tryz.prog 65 [.int .i64 n, .int .i64 k].toArray w (Fix (.bool (bel n k)) w) := by
 refine calls_start Tryz.func65 rfl rfl ?_
 intro az Z
 rw [Tryz.ntmps65] at Z
 refine wp_seq_k fun _ k1 => wp_region_lit ?_
 refine L (r_as Z rfl) Z rfl ?_; clear Z az; intro az Z
 refine k1 _ _ (wp_seq_k fun _ k2 => wp_region_lit ?_)
 refine L (r_mv Z rfl) Z rfl ?_; clear Z az; intro az Z
 refine L (r_geI Z rfl rfl) Z rfl ?_; clear Z az; intro az Z
 refine L (r_mv Z rfl) Z rfl ?_; clear Z az; intro az Z
 refine LG Z rfl rfl gd_t (fun hb => r_mv Z rfl) rfl ?_; clear Z az; intro az Z
 refine LG Z rfl rfl gd_t (fun hb => r_mv Z rfl) rfl ?_; clear Z az; intro az Z
 refine LG Z rfl rfl gd_t (fun hb => r_ltI Z (evg hb rfl) (evg hb rfl)) rfl ?_; clear Z az; intro az Z
 refine L (r_and Z rfl rfl rfl) Z rfl ?_; clear Z az; intro az Z
 refine L (r_as Z rfl) Z rfl ?_; clear Z az; intro az Z
 refine k2 _ _ ?_
 refine wp_ret ?_
 show bodyPost _ _ _ .ret _ _
 refine ret_of (vs := [.bool (((decide (0 ≤ n)) && (decide (n < k))))]) Z Tryz.results65 ⟨rfl, trivial⟩ ?_
 exact ⟨rfl, (Only.refl NoF w)⟩
theorem known_v (w : World) (h n : Int) : Calls Tryz.prog 64 [.int .i64 h, .int .i64 n].toArray w (Fix (.bool (kn h n)) w) := by
 refine calls_start Tryz.func64 rfl rfl ?_
 intro az Z
 rw [Tryz.ntmps64] at Z
 refine wp_seq_k fun _ k1 => wp_region_lit ?_
 refine L (r_as Z rfl) Z rfl ?_; clear Z az; intro az Z
 refine k1 _ _ (wp_seq_k fun _ k2 => wp_region_lit ?_)
 refine L (r_mv Z rfl) Z rfl ?_; clear Z az; intro az Z
 refine LCV (v := .bool (bel h 400)) Z rfl rfl Tryz.call65 (below_v _ h 400) rfl fun w3 o4 => ?_; clear Z az; intro az Z
 refine L (r_mv Z rfl) Z rfl ?_; clear Z az; intro az Z
 refine LG Z rfl rfl gd_t (fun hb => r_mv Z rfl) rfl ?_; clear Z az; intro az Z
 refine LGV (v := .bool (bel n 400)) Z rfl rfl gd_t rfl (fun hb => (evs_c (evg hb rfl) (evs_c rfl rfl))) Tryz.call65 (fun hb => below_v _ n 400) rfl fun w5 o6 => ?_; clear Z az; intro az Z
 refine L (r_and Z rfl rfl rfl) Z rfl ?_; clear Z az; intro az Z
 refine L (r_as Z rfl) Z rfl ?_; clear Z az; intro az Z
 refine k2 _ _ ?_
 refine wp_ret ?_
 show bodyPost _ _ _ .ret _ _
 refine ret_of (vs := [.bool (((bel h 400) && (bel n 400)))]) Z Tryz.results64 ⟨rfl, trivial⟩ ?_
 have O7 : Only NoF w w5 := (Only.trans' o4 o6)
 exact ⟨rfl, O7⟩
theorem Right_v {w : World} {m : NM} (h1 : RefsV w (.slice m.A m.l.length m.c) m.l) : Calls Tryz.prog 43 [.agg #[.int .i64 m.h, .int .i64 m.n, .int .i64 m.d, .slice m.A m.l.length m.c, strV m.s]].toArray w (Fix (.bool (right m)) w) := by
 refine calls_start Tryz.func43 rfl rfl ?_
 intro az Z
 rw [Tryz.ntmps43] at Z
 refine wp_seq_k fun _ k1 => wp_region_lit ?_
 refine LBox Z rfl rfl rfl ?_
 clear Z az; intro g2 w3 hg6 hl7 o4 B5 az Z
 refine L (r_as Z rfl) Z rfl ?_; clear Z az; intro az Z
 refine k1 _ _ (wp_seq_k fun _ k8 => ?_)
 refine wp_seq_k fun _ k9 => wp_region_lit ?_
 refine L (r_fa (m' := 0) Tryz.underlying43 rfl Tryz.sizeOf3 rfl Z rfl rfl) Z rfl ?_; clear Z az; intro az Z
 refine L (r_ld Tryz.isAgg3 Z rfl ((Blk.ca B5) 0 _ rfl)) Z rfl ?_; clear Z az; intro az Z
 refine L (r_fa (m' := 1) Tryz.underlying43 rfl Tryz.sizeOf3 rfl Z rfl rfl) Z rfl ?_; clear Z az; intro az Z
 refine L (r_ld Tryz.isAgg3 Z rfl ((Blk.ca B5) 1 _ rfl)) Z rfl ?_; clear Z az; intro az Z
 refine LCV (v := .bool (kn m.h m.n)) Z rfl rfl Tryz.call64 (known_v _ m.h m.n) rfl fun w10 o11 => ?_; clear Z az; intro az Z
 refine L (r_not Z rfl) Z rfl ?_; clear Z az; intro az Z
 refine L (r_mv Z rfl) Z rfl ?_; clear Z az; intro az Z
 refine LG Z rfl rfl gd_f (fun hb => r_fa (m' := 2) Tryz.underlying43 rfl Tryz.sizeOf3 rfl Z rfl rfl) rfl ?_; clear Z az; intro az Z
 have B12 := (Blk.k B5 o11)
 refine LG Z rfl rfl gd_f (fun hb => r_ld Tryz.isAgg3 Z (evg hb rfl) ((Blk.ca B12) 2 _ rfl)) rfl ?_; clear Z az; intro az Z
 refine LGV (v := .bool (bel m.d 100001)) Z rfl rfl gd_f rfl (fun hb => (evs_c (evg hb rfl) (evs_c rfl rfl))) Tryz.call65 (fun hb => below_v _ m.d 100001) rfl fun w13 o14 => ?_; clear Z az; intro az Z
 refine LG Z rfl rfl gd_f (fun hb => r_not Z (evg hb rfl)) rfl ?_; clear Z az; intro az Z
 refine L (r_or Z rfl rfl rfl) Z rfl ?_; clear Z az; intro az Z
 refine L (r_mv Z rfl) Z rfl ?_; clear Z az; intro az Z
 refine LG Z rfl rfl gd_f (fun hb => r_fa (m' := 4) Tryz.underlying43 rfl Tryz.sizeOf9 rfl Z rfl rfl) rfl ?_; clear Z az; intro az Z
 have B15 := (Blk.k B12 o14)
 refine LG Z rfl rfl gd_f (fun hb => r_ld Tryz.isAgg9 Z (evg hb rfl) ((Blk.ca B15) 4 _ rfl)) rfl ?_; clear Z az; intro az Z
 refine LG Z rfl rfl gd_f (fun hb => r_lenS Tryz.underlying9 Z (evg hb rfl)) rfl ?_; clear Z az; intro az Z
 refine LG Z rfl rfl gd_f (fun hb => r_gtI Z (evg hb rfl) rfl) rfl ?_; clear Z az; intro az Z
 refine L (r_or Z rfl rfl rfl) Z rfl ?_; clear Z az; intro az Z
 refine L (r_mv Z rfl) Z rfl ?_; clear Z az; intro az Z
 refine LG Z rfl rfl gd_f (fun hb => r_fa (m' := 3) Tryz.underlying43 rfl Tryz.sizeOf35 rfl Z rfl rfl) rfl ?_; clear Z az; intro az Z
 refine LG Z rfl rfl gd_f (fun hb => r_ld Tryz.isAgg35 Z (evg hb rfl) ((Blk.ca B15) 3 _ rfl)) rfl ?_; clear Z az; intro az Z
 refine LG Z rfl rfl gd_f (fun hb => r_lenL Tryz.underlying35 Z (evg hb rfl)) rfl ?_; clear Z az; intro az Z
 refine LG Z rfl rfl gd_f (fun hb => r_gtI Z (evg hb rfl) rfl) rfl ?_; clear Z az; intro az Z
 refine L (r_or Z rfl rfl rfl) Z rfl ?_; clear Z az; intro az Z
 refine k9 _ _ ?_
 refine br Z rfl (fun hc16 => ?_) (fun hc16 => ?_)
 ·
  have d17 := hc16
  refine wp_seq_k fun _ k18 => wp_region_lit ?_
  refine L (r_as Z rfl) Z rfl ?_; clear Z az; intro az Z
  refine k18 _ _ ?_
  refine wp_ret ?_
  show bodyPost _ _ _ .ret _ _
  refine ret_of (vs := [.bool (false)]) Z Tryz.results43 ⟨rfl, trivial⟩ ?_
  have O19 : Only NoF w w13 := (Only.trans' (Only.trans' o4 o11) o14)
  rw [right_bad (m := m) hc16]; exact ⟨rfl, O19⟩
 ·
  have q20 : kn m.h m.n = true := (nt_f (or_f (or_f (or_f hc16).1).1).1)
  have q21 : bel m.d 100001 = true := (nt_f (or_f (or_f (or_f hc16).1).1).2)
  have p22 := of_decide_eq_false (or_f (or_f hc16).1).2
  have p23 := of_decide_eq_false (or_f hc16).2
  refine wp_skip ?_
  refine k8 _ _ (wp_seq_k fun _ k24 => wp_region_lit ?_)
  refine L (r_bd (v := .agg #[.int .i64 ((-1)), .int .i64 (0)]) (build_Ref1 _) Z rfl) Z rfl ?_; clear Z az; intro az Z
  refine LAl (v := .agg #[.int .i64 (0), .int .i64 (0)]) Tryz.zeroValue59 Z rfl rfl ?_
  clear Z az; intro g25 w26 hg29 hl30 o27 B28 az Z
  refine LSt (cs' := [.int .i64 ((-1)), .int .i64 (0)]) Tryz.sizeOf59 Z rfl rfl rfl rfl rfl ⟨rfl, rfl, trivial⟩ B28 rfl rfl fun w31 s32 B33 => ?_
  refine k24 _ _ (wp_seq_k fun _ k34 => ?_)
  refine wp_seq_k fun _ k35 => wp_region_lit ?_
  refine L (r_fa (m' := 3) Tryz.underlying43 rfl Tryz.sizeOf35 rfl Z rfl rfl) Z rfl ?_; clear Z az; intro az Z
  have O37 : Only NoF w3 w13 := (Only.trans' o11 o14)
  have ne36 : g2 ≠ g25 := (ne_of hl7 (Nat.le_trans (size_only O37) hg29))
  have B38 := (Blk.st (Blk.k B15 o27) s32 ne36)
  refine L (r_ld Tryz.isAgg35 Z rfl ((Blk.ca B38) 3 _ rfl)) Z rfl ?_; clear Z az; intro az Z
  refine L (r_lenL Tryz.underlying35 Z rfl) Z rfl ?_; clear Z az; intro az Z
  refine L (r_mv Z rfl) Z rfl ?_; clear Z az; intro az Z
  refine k35 _ _ ?_
  refine wp_block ?_
  have ne39 : g25 ≠ g2 := (ne_of hl7 (Nat.le_trans (size_only O37) hg29)).symm
  refine wp_loop_m (fun mz az W => ∃ k : Nat, ∃ p : RM, mz = m.l.length - k ∧ Fr 84 [(1, .pointer (some ((⟨g2, 0, none⟩ : Addr)))), (3, .pointer (some ((⟨g25, 0, none⟩ : Addr)))), (33, .slice m.A (m.l.length) m.c), (34, .int .i64 (((m.l.length : Nat) : Int))), (35, .int .i64 ((k : Int)))] az ∧ (k ≤ m.l.length) ∧ (refsOk m.h m.n ⟨-1, 0⟩ m.l = refsOk m.h m.n p (m.l.drop k)) ∧ Only NoF w W ∧ Blk W g25 59 [.int .i64 (p.h), .int .i64 (p.n)].toArray ∧ Blk W g2 43 [.int .i64 (m.h), .int .i64 (m.n), .int .i64 (m.d), .slice m.A (m.l.length) m.c, strV (m.s)].toArray) ?_ ?_
  ·
   have O40 : Only NoF w w13 := (Only.trans' (Only.trans' o4 o11) o14)
   have O41 : Only NoF w w31 := (o_sg (Only.trans' (Only.trans' (Only.trans' o4 o11) o14) o27) s32 (size_only O40) (oneF_ge hg29))
   exact ⟨_, 0, ⟨-1, 0⟩, rfl, Z.cut ⟨rfl, rfl, rfl, rfl, rfl, trivial⟩, Nat.zero_le _, rfl, O41, B33, B38⟩
  clear Z az
  rintro mz az w42 ⟨k, p, hm44, Z, hk, hrf, o43, B45, B46⟩
  have O47 : Only NoF w w13 := (Only.trans' (Only.trans' o4 o11) o14)
  refine wp_seq_k fun _ k48 => wp_region_lit ?_
  refine L (r_ltI Z rfl rfl) Z rfl ?_; clear Z az; intro az Z
  refine k48 _ _ (wp_seq_k fun _ k49 => ?_)
  refine br Z rfl (fun hc50 => ?_) (fun hc50 => ?_)
  ·
   have p51 := of_decide_eq_true hc50
   refine wp_skip ?_
   refine k49 _ _ (wp_seq_k fun _ k52 => ?_)
   refine wp_block ?_
   refine wp_seq_k fun _ k53 => wp_region_lit ?_
   have hk54 : k < (m.l).length := by omega
   have h60 := (SliceOf.kp h1 o43 (fun _ _ h => h) (fun _ _ _ _ h => h))
   obtain ⟨m55, hm56, ok57, hA58⟩ := Row.el KRef h60 hk54
   have E59 : ∀ W, Only NoF w42 W → CA W (eA m.A 2 (k)) [.int .i64 (m55.h), .int .i64 (m55.n)] := Row.ce KRef h60 hm56 rfl
   refine L (r_ia (k := k) (size := 2) Tryz.underlying35 Tryz.sizeOf59 Z rfl rfl rfl hk54 hA58) Z rfl ?_; clear Z az; intro az Z
   refine L (r_ldA Tryz.isAgg59 Tryz.sizeOf59 Z rfl (E59 _ (Only.refl NoF w42)) rfl) Z rfl ?_; clear Z az; intro az Z
   refine LAl (v := .agg #[.int .i64 (0), .int .i64 (0)]) Tryz.zeroValue59 Z rfl rfl ?_
   clear Z az; intro g61 w62 hg65 hl66 o63 B64 az Z
   refine LSt (cs' := [.int .i64 (m55.h), .int .i64 (m55.n)]) Tryz.sizeOf59 Z rfl rfl rfl rfl rfl ⟨rfl, rfl, trivial⟩ B64 rfl rfl fun w67 s68 B69 => ?_
   refine k53 _ _ (wp_seq_k fun _ k70 => wp_region_lit ?_)
   refine L (r_fa (m' := 0) Tryz.underlying59 rfl Tryz.sizeOf3 rfl Z rfl rfl) Z rfl ?_; clear Z az; intro az Z
   refine L (r_ld Tryz.isAgg3 Z rfl ((Blk.ca B69) 0 _ rfl)) Z rfl ?_; clear Z az; intro az Z
   refine L (r_fa (m' := 0) Tryz.underlying59 rfl Tryz.sizeOf3 rfl Z rfl rfl) Z rfl ?_; clear Z az; intro az Z
   have ne71 : g25 ≠ g61 := (ne_of (Blk.lt B45) hg65)
   have B72 := (Blk.st (Blk.k B45 o63) s68 ne71)
   refine L (r_ld Tryz.isAgg3 Z rfl ((Blk.ca B72) 0 _ rfl)) Z rfl ?_; clear Z az; intro az Z
   refine L (r_gtI Z rfl rfl) Z rfl ?_; clear Z az; intro az Z
   refine L (r_mv Z rfl) Z rfl ?_; clear Z az; intro az Z
   refine LG Z rfl rfl gd_f (fun hb => r_fa (m' := 0) Tryz.underlying59 rfl Tryz.sizeOf3 rfl Z rfl rfl) rfl ?_; clear Z az; intro az Z
   refine LG Z rfl rfl gd_f (fun hb => r_ld Tryz.isAgg3 Z (evg hb rfl) ((Blk.ca B69) 0 _ rfl)) rfl ?_; clear Z az; intro az Z
   refine LG Z rfl rfl gd_f (fun hb => r_fa (m' := 0) Tryz.underlying59 rfl Tryz.sizeOf3 rfl Z rfl rfl) rfl ?_; clear Z az; intro az Z
   refine LG Z rfl rfl gd_f (fun hb => r_ld Tryz.isAgg3 Z (evg hb rfl) ((Blk.ca B72) 0 _ rfl)) rfl ?_; clear Z az; intro az Z
   refine LG Z rfl rfl gd_f (fun hb => r_eqI Z (evg hb rfl) (evg hb rfl)) rfl ?_; clear Z az; intro az Z
   refine LG Z rfl rfl gd_f (fun hb => r_mv Z (evg hb rfl)) rfl ?_; clear Z az; intro az Z
   refine LG Z rfl rfl gd_gt (fun hb => r_fa (m' := 1) Tryz.underlying59 rfl Tryz.sizeOf3 rfl Z rfl rfl) rfl ?_; clear Z az; intro az Z
   refine LG Z rfl rfl gd_gt (fun hb => r_ld Tryz.isAgg3 Z (evg hb rfl) ((Blk.ca B69) 1 _ rfl)) rfl ?_; clear Z az; intro az Z
   refine LG Z rfl rfl gd_gt (fun hb => r_fa (m' := 1) Tryz.underlying59 rfl Tryz.sizeOf3 rfl Z rfl rfl) rfl ?_; clear Z az; intro az Z
   refine LG Z rfl rfl gd_gt (fun hb => r_ld Tryz.isAgg3 Z (evg hb rfl) ((Blk.ca B72) 1 _ rfl)) rfl ?_; clear Z az; intro az Z
   refine LG Z rfl rfl gd_gt (fun hb => r_gtI Z (evg hb rfl) (evg hb rfl)) rfl ?_; clear Z az; intro az Z
   refine LG Z rfl rfl gd_f (fun hb => r_and Z (evg hb rfl) (evgc hb rfl) rfl) rfl ?_; clear Z az; intro az Z
   refine L (r_or Z rfl rfl rfl) Z rfl ?_; clear Z az; intro az Z
   refine L (r_as Z rfl) Z rfl ?_; clear Z az; intro az Z
   refine k70 _ _ (wp_seq_k fun _ k73 => ?_)
   refine wp_seq_k fun _ k74 => wp_region_lit ?_
   refine L (r_fa (m' := 0) Tryz.underlying59 rfl Tryz.sizeOf3 rfl Z rfl rfl) Z rfl ?_; clear Z az; intro az Z
   refine L (r_ld Tryz.isAgg3 Z rfl ((Blk.ca B69) 0 _ rfl)) Z rfl ?_; clear Z az; intro az Z
   refine L (r_fa (m' := 1) Tryz.underlying59 rfl Tryz.sizeOf3 rfl Z rfl rfl) Z rfl ?_; clear Z az; intro az Z
   refine L (r_ld Tryz.isAgg3 Z rfl ((Blk.ca B69) 1 _ rfl)) Z rfl ?_; clear Z az; intro az Z
   refine LCV (v := .bool (kn m55.h m55.n)) Z rfl rfl Tryz.call64 (known_v _ m55.h m55.n) rfl fun w75 o76 => ?_; clear Z az; intro az Z
   refine L (r_not Z rfl) Z rfl ?_; clear Z az; intro az Z
   refine L (r_mv Z rfl) Z rfl ?_; clear Z az; intro az Z
   refine LG Z rfl rfl gd_f (fun hb => r_mv Z rfl) rfl ?_; clear Z az; intro az Z
   refine LG Z rfl rfl gd_f (fun hb => r_not Z (evg hb rfl)) rfl ?_; clear Z az; intro az Z
   refine L (r_or Z rfl rfl rfl) Z rfl ?_; clear Z az; intro az Z
   refine L (r_mv Z rfl) Z rfl ?_; clear Z az; intro az Z
   refine LG Z rfl rfl gd_f (fun hb => r_fa (m' := 0) Tryz.underlying59 rfl Tryz.sizeOf3 rfl Z rfl rfl) rfl ?_; clear Z az; intro az Z
   have B77 := (Blk.k B69 o76)
   refine LG Z rfl rfl gd_f (fun hb => r_ld Tryz.isAgg3 Z (evg hb rfl) ((Blk.ca B77) 0 _ rfl)) rfl ?_; clear Z az; intro az Z
   refine LG Z rfl rfl gd_f (fun hb => r_fa (m' := 0) Tryz.underlying43 rfl Tryz.sizeOf3 rfl Z rfl rfl) rfl ?_; clear Z az; intro az Z
   have ne78 : g2 ≠ g61 := (ne_of (Blk.lt B46) hg65)
   have B79 := (Blk.k (Blk.st (Blk.k B46 o63) s68 ne78) o76)
   refine LG Z rfl rfl gd_f (fun hb => r_ld Tryz.isAgg3 Z (evg hb rfl) ((Blk.ca B79) 0 _ rfl)) rfl ?_; clear Z az; intro az Z
   refine LG Z rfl rfl gd_f (fun hb => r_eqI Z (evg hb rfl) (evg hb rfl)) rfl ?_; clear Z az; intro az Z
   refine LG Z rfl rfl gd_f (fun hb => r_mv Z (evg hb rfl)) rfl ?_; clear Z az; intro az Z
   refine LG Z rfl rfl gd_gt (fun hb => r_fa (m' := 1) Tryz.underlying59 rfl Tryz.sizeOf3 rfl Z rfl rfl) rfl ?_; clear Z az; intro az Z
   refine LG Z rfl rfl gd_gt (fun hb => r_ld Tryz.isAgg3 Z (evg hb rfl) ((Blk.ca B77) 1 _ rfl)) rfl ?_; clear Z az; intro az Z
   refine LG Z rfl rfl gd_gt (fun hb => r_fa (m' := 1) Tryz.underlying43 rfl Tryz.sizeOf3 rfl Z rfl rfl) rfl ?_; clear Z az; intro az Z
   refine LG Z rfl rfl gd_gt (fun hb => r_ld Tryz.isAgg3 Z (evg hb rfl) ((Blk.ca B79) 1 _ rfl)) rfl ?_; clear Z az; intro az Z
   refine LG Z rfl rfl gd_gt (fun hb => r_geI Z (evg hb rfl) (evg hb rfl)) rfl ?_; clear Z az; intro az Z
   refine LG Z rfl rfl gd_f (fun hb => r_and Z (evg hb rfl) (evgc hb rfl) rfl) rfl ?_; clear Z az; intro az Z
   refine L (r_or Z rfl rfl rfl) Z rfl ?_; clear Z az; intro az Z
   refine k74 _ _ ?_
   refine br Z rfl (fun hc80 => ?_) (fun hc80 => ?_)
   ·
    have d81 := hc80
    refine wp_seq_k fun _ k82 => wp_region_lit ?_
    refine L (r_as Z rfl) Z rfl ?_; clear Z az; intro az Z
    refine k82 _ _ ?_
    refine wp_ret ?_
    show bodyPost _ _ _ .ret _ _
    refine ret_of (vs := [.bool (false)]) Z Tryz.results43 ⟨rfl, trivial⟩ ?_
    have O83 : Only NoF w w75 := (Only.trans' (o_sg (Only.trans' o43 o63) s68 (size_only o43) (oneF_ge hg65)) o76)
    have hro : refOk m.h m.n p m55 = false := congrArg (fun b => !b) hc80
    rw [right_of (m := m) (b := false) hc16 hrf (by rw [refsOk_drop hm56, hro, Bool.false_and])]; exact ⟨rfl, O83⟩
   ·
    have q84 : kn m55.h m55.n = true := (nt_f (or_f (or_f hc80).1).1)
    have d85 := (nt_f (or_f (or_f hc80).1).2)
    have d86 := (or_f hc80).2
    refine wp_skip ?_
    refine k73 _ _ ?_
    refine wp_region_lit ?_
    refine L (r_ldA Tryz.isAgg59 Tryz.sizeOf59 Z rfl (Blk.ca B77) rfl) Z rfl ?_; clear Z az; intro az Z
    have B87 := (Blk.k B72 o76)
    refine LSt (cs' := [.int .i64 (m55.h), .int .i64 (m55.n)]) Tryz.sizeOf59 Z rfl rfl rfl rfl rfl ⟨rfl, rfl, trivial⟩ B87 rfl rfl fun w88 s89 B90 => ?_
    refine k52 _ _ ?_
    refine wp_region_lit ?_
    have i91 : I64 (((k : Int) + 1)) := by unfold I64; omega
    refine L (r_addI (r := ((k : Int) + 1)) Z rfl rfl rfl i91) Z rfl ?_; clear Z az; intro az Z
    refine L (r_mv Z rfl) Z rfl ?_; clear Z az; intro az Z
    have hro : refOk m.h m.n p m55 = true := congrArg (fun b => !b) hc80
    have O92 : Only NoF w w88 := (o_sg (Only.trans' (o_sg (Only.trans' o43 o63) s68 (size_only o43) (oneF_ge hg65)) o76) s89 (Nat.le_refl _) (oneF_ge (Nat.le_trans (size_only O47) hg29)))
    have B93 := (Blk.st B79 s89 ne36)
    exact ⟨_, (by omega), k + 1, m55, rfl, Z.cut ⟨rfl, rfl, rfl, rfl, rfl, trivial⟩, (by omega), (by rw [hrf, refsOk_drop hm56, hro, Bool.true_and]), O92, B90, B93⟩
  ·
   have p94 := of_decide_eq_false hc50
   refine wp_exit ?_
   refine th_exit ?_
   refine th_exit ?_
   refine ib_hit ?_
   refine k34 _ _ (wp_seq_k fun _ k95 => wp_region_lit ?_)
   refine L (r_as Z rfl) Z rfl ?_; clear Z az; intro az Z
   refine k95 _ _ ?_
   refine wp_ret ?_
   show bodyPost _ _ _ .ret _ _
   refine ret_of (vs := [.bool (true)]) Z Tryz.results43 ⟨rfl, trivial⟩ ?_
   rw [right_of (m := m) (b := true) hc16 hrf (by rw [List.drop_of_length_le (by omega)]; rfl)]; exact ⟨rfl, o43⟩
end
section
open Go.RowKit
abbrev refV (a : RM) : Value := .agg #[.int .i64 a.h, .int .i64 a.n]
def refLt (a b : RM) : Bool := decide (a.h < b.h) || (decide (a.h = b.h) && decide (a.n < b.n))
theorem guardRef : Tryz.prog.eqGuardType Tryz.prog.depth 59 = false := by kernel_rfl
theorem eqRef (w : World) (k k' : RM) : (Op.equalIn 10000 59 (refV k) (refV k')).run Tryz.prog w = .ok (decide (k = k')) w := by
 have h : (Op.equalIn (9999 + 1) 59 (refV k) (refV k')).run Tryz.prog w = .ok (decide (k = k')) w := by
  obtain ⟨a, b⟩ := k
  obtain ⟨c, d⟩ := k'
  by_cases h1 : a = c <;> by_cases h2 : b = d <;> simp [go_sem, Tryz.underlying59, Tryz.underlying3, h1, h2]
 exact h
theorem neqRef (w : World) (k k' : RM) : (binOp .neq 59 (refV k) (refV k')).run Tryz.prog w = .ok (.bool (!decide (k = k'))) w := by
 rw [run_neq_struct, eqRef]
 rfl
theorem rSame_eq {m m2 : NM} : ((((decide (m.h = m2.h) && decide (m.n = m2.n)) && decide (m.d = m2.d)) && decide (m.s = m2.s)) && decide (m.l = m2.l)) = same m m2 := by
 unfold same
 rw [Bool.and_right_comm]
/-! ### the bounds -/
def plain (m : NM) : Bool := decide (((m.l.length : Nat) : Int) ≤ 50) && (decide (((m.s.length : Nat) : Int) ≤ 200) || (decide ((7990 : Int) < ((m.s.length : Nat) : Int)) && decide (((m.s.length : Nat) : Int) ≤ 8010)))
def FewN (l : List NM) (most : Int) : Prop := l.length ≤ 420 ∧ ((l.length : Int) ≤ most ∨ 400 < l.length) ∧ ∀ x ∈ l, plain x = true
theorem few_n {l : List NM} {most : Int} {k : Nat} (hm : most ≤ 400) (hk : k ≤ l.length) (hp : ∀ x ∈ l.take k, plain x = true) (h0 : (decide ((k : Int) < ((l.length : Nat) : Int)) && decide ((k : Int) ≤ 420)) = false)
 (hf : (decide (((l.length : Nat) : Int) ≤ most) || (decide ((400 : Int) < ((l.length : Nat) : Int)) && decide (((l.length : Nat) : Int) ≤ 420))) = true) : FewN l most := by
 simp only [Bool.and_eq_false_iff, decide_eq_false_iff_not] at h0
 simp only [Bool.or_eq_true, Bool.and_eq_true, decide_eq_true_eq] at hf
 refine ⟨by omega, by omega, ?_⟩
 rwa [List.take_of_length_le (by omega)] at hp
/-! ### Check -/
def hdH (l : List NM) : Int := match l with | m :: _ => m.h | [] => 0
theorem hdH_of {l : List NM} {m : NM} (h : l[0]? = some m) : m.h = hdH l := by
 cases l with
 | nil => simp at h
 | cons x l => simp at h; subst h; rfl
def chk (h0 : Int) : Nat → Int → List NM → Int
 | _, _, [] => 0
 | i, d, m :: l => if right m = false then 1 else if m.h ≠ h0 then 19 else if (i : Int) < m.n then 21 else if m.n < (i : Int) then 5 else if m.d < d then 18 else chk h0 (i + 1) m.d l
def check (l : List NM) : Int := if 400 < l.length then 6 else chk (hdH l) 0 0 l
theorem check_many {l : List NM} (h : decide ((400 : Int) < ((l.length : Nat) : Int)) = true) : check l = 6 := by
 unfold check; rw [if_pos (by have := of_decide_eq_true h; omega)]
theorem check_of {l : List NM} {x : Int} (h : decide ((400 : Int) < ((l.length : Nat) : Int)) = false) (hx : chk (hdH l) 0 0 l = x) : check l = x := by
 unfold check; rw [if_neg (by have := of_decide_eq_false h; omega), hx]
section
variable {l : List NM} {k : Nat} {m : NM} {h0 d : Int}
theorem chk_drop (hm : l[k]? = some m) : chk h0 k d (l.drop k) = (if right m = false then 1 else if m.h ≠ h0 then 19 else if (k : Int) < m.n then 21 else if m.n < (k : Int) then 5 else if m.d < d then 18 else chk h0 (k + 1) m.d (l.drop (k + 1))) := by
 obtain ⟨hk, rfl⟩ := List.getElem?_eq_some_iff.1 hm
 rw [List.drop_eq_getElem_cons hk]; rfl
variable (hm : l[k]? = some m)
include hm
theorem chk_2 (h2 : (!right m) = true) : chk h0 k d (l.drop k) = 1 := by
 rw [chk_drop hm, if_pos (nt_t h2)]
theorem chk_3 (h2 : (!right m) = false) (h3 : (!decide (m.h = h0)) = true) : chk h0 k d (l.drop k) = 19 := by
 rw [chk_drop hm, if_neg (by rw [nt_f h2]; decide), if_pos (of_decide_eq_false (nt_t h3))]
theorem chk_4 (h2 : (!right m) = false) (h3 : (!decide (m.h = h0)) = false) (h4 : decide ((k : Int) < m.n) = true) : chk h0 k d (l.drop k) = 21 := by
 rw [chk_drop hm, if_neg (by rw [nt_f h2]; decide), if_neg (fun h => h (of_decide_eq_true (nt_f h3))), if_pos (of_decide_eq_true h4)]
theorem chk_5 (h2 : (!right m) = false) (h3 : (!decide (m.h = h0)) = false) (h4 : decide ((k : Int) < m.n) = false) (h5 : decide (m.n < (k : Int)) = true) : chk h0 k d (l.drop k) = 5 := by
 rw [chk_drop hm, if_neg (by rw [nt_f h2]; decide), if_neg (fun h => h (of_decide_eq_true (nt_f h3))), if_neg (of_decide_eq_false h4), if_pos (of_decide_eq_true h5)]
theorem chk_6 (h2 : (!right m) = false) (h3 : (!decide (m.h = h0)) = false) (h4 : decide ((k : Int) < m.n) = false) (h5 : decide (m.n < (k : Int)) = false) (h6 : decide (m.d < d) = true) : chk h0 k d (l.drop k) = 18 := by
 rw [chk_drop hm, if_neg (by rw [nt_f h2]; decide), if_neg (fun h => h (of_decide_eq_true (nt_f h3))), if_neg (of_decide_eq_false h4), if_neg (of_decide_eq_false h5), if_pos (of_decide_eq_true h6)]
theorem chk_next (h2 : (!right m) = false) (h3 : (!decide (m.h = h0)) = false) (h4 : decide ((k : Int) < m.n) = false) (h5 : decide (m.n < (k : Int)) = false) (h6 : decide (m.d < d) = false) : chk h0 k d (l.drop k) = chk h0 (k + 1) m.d (l.drop (k + 1)) := by
 rw [chk_drop hm, if_neg (by rw [nt_f h2]; decide), if_neg (fun h => h (of_decide_eq_true (nt_f h3))), if_neg (of_decide_eq_false h4), if_neg (of_decide_eq_false h5), if_neg (of_decide_eq_false h6)]
end
theorem rSameRefs_v_ {w : World} {l l2 : List RM} {A1 A2 : Option Addr} {c1 c2 : Nat} (f1 : RefsV w (.slice A1 l.length c1) l) (f2 : RefsV w (.slice A2 l2.length c2) l2) : Calls Tryz.prog 19 [.slice A1 l.length c1, .slice A2 l2.length c2].toArray w (Fix (.bool (decide (l = l2))) w) := by
 have hbd1 := Nat.le_trans (SliceOf.cap_ f1) (SliceOf.lens f1).2
 refine calls_start Tryz.func19 rfl rfl ?_
 intro az Z
 rw [Tryz.ntmps19] at Z
 refine wp_seq_k fun _ k1 => wp_region_lit ?_
 refine L (r_as Z rfl) Z rfl ?_; clear Z az; intro az Z
 refine k1 _ _ (wp_seq_k fun _ k2 => ?_)
 refine wp_seq_k fun _ k3 => wp_region_lit ?_
 refine L (r_mv Z rfl) Z rfl ?_; clear Z az; intro az Z
 refine L (r_lenL Tryz.underlying35 Z rfl) Z rfl ?_; clear Z az; intro az Z
 refine L (r_mv Z rfl) Z rfl ?_; clear Z az; intro az Z
 refine L (r_lenL Tryz.underlying35 Z rfl) Z rfl ?_; clear Z az; intro az Z
 refine L (r_neI Z rfl rfl) Z rfl ?_; clear Z az; intro az Z
 refine k3 _ _ ?_
 refine br Z rfl (fun hc4 => ?_) (fun hc4 => ?_)
 ·
  have p5 := of_decide_eq_false (nt_t hc4)
  refine wp_seq_k fun _ k6 => wp_region_lit ?_
  refine L (r_as Z rfl) Z rfl ?_; clear Z az; intro az Z
  refine k6 _ _ ?_
  refine wp_ret ?_
  show bodyPost _ _ _ .ret _ _
  refine ret_of (vs := [.bool (false)]) Z Tryz.results19 ⟨rfl, trivial⟩ ?_
  rw [decide_eq_false (fun h => by have := congrArg List.length h; omega)]; exact ⟨rfl, (Only.refl NoF w)⟩
 ·
  have p7 := of_decide_eq_true (nt_f hc4)
  refine wp_skip ?_
  refine k2 _ _ (wp_seq_k fun _ k8 => ?_)
  refine wp_seq_k fun _ k9 => wp_region_lit ?_
  refine L (r_as Z rfl) Z rfl ?_; clear Z az; intro az Z
  refine k9 _ _ ?_
  refine wp_block ?_
  refine wp_loop_m (fun mz az W => ∃ k : Nat, mz = l.length - k ∧ Fr 26 [(0, .slice A1 (l.length) c1), (1, .slice A2 (l2.length) c2), (5, .int .i64 ((k : Int)))] az ∧ (k ≤ l.length) ∧ (l.take k = l2.take k) ∧ Only NoF w W) ?_ ?_
  ·
   exact ⟨_, 0, rfl, Z.cut ⟨rfl, rfl, rfl, trivial⟩, Nat.zero_le _, rfl, (Only.refl NoF w)⟩
  clear Z az
  rintro mz az w10 ⟨k, hm12, Z, hk, heq, o11⟩
  refine wp_seq_k fun _ k13 => ?_
  refine wp_seq_k fun _ k14 => wp_region_lit ?_
  refine L (r_mv Z rfl) Z rfl ?_; clear Z az; intro az Z
  refine L (r_mv Z rfl) Z rfl ?_; clear Z az; intro az Z
  refine L (r_lenL Tryz.underlying35 Z rfl) Z rfl ?_; clear Z az; intro az Z
  refine L (r_ltI Z rfl rfl) Z rfl ?_; clear Z az; intro az Z
  refine k14 _ _ ?_
  refine br Z rfl (fun hc15 => ?_) (fun hc15 => ?_)
  ·
   have p16 := of_decide_eq_true hc15
   refine wp_skip ?_
   refine k13 _ _ (wp_seq_k fun _ k17 => ?_)
   refine wp_block ?_
   refine wp_seq_k fun _ k18 => ?_
   refine reg_q [(true, 0), (true, 1), (true, 2), (true, 3), (true, 4), (true, 5), (true, 6), (true, 7), (true, 8)] (by kernel_rfl) (by kernel_rfl) (fun _ _ _ _ _ h => h) fun w19 o20 => ?_
   refine M (r_mv Z rfl) Z rfl rfl ?_; clear Z az; intro az Z
   refine M (r_mv Z rfl) Z rfl rfl ?_; clear Z az; intro az Z
   have hk21 : k < (l).length := by omega
   have O27 : Only NoF w w19 := (Only.trans' o11 o20)
   have h28 := (SliceOf.kp f1 O27 (fun _ _ h => h) (fun _ _ _ _ h => h))
   obtain ⟨m22, hm23, ok24, hA25⟩ := Row.el KRef h28 hk21
   have E26 : ∀ W, Only NoF w19 W → CA W (eA A1 2 (k)) [.int .i64 (m22.h), .int .i64 (m22.n)] := Row.ce KRef h28 hm23 rfl
   refine M (r_ia (k := k) (size := 2) Tryz.underlying35 Tryz.sizeOf59 Z rfl rfl rfl hk21 hA25) Z rfl rfl ?_; clear Z az; intro az Z
   refine M (r_ldA Tryz.isAgg59 Tryz.sizeOf59 Z rfl (E26 _ (Only.refl NoF w19)) rfl) Z rfl rfl ?_; clear Z az; intro az Z
   refine M (r_mv Z rfl) Z rfl rfl ?_; clear Z az; intro az Z
   refine M (r_mv Z rfl) Z rfl rfl ?_; clear Z az; intro az Z
   have hk29 : k < (l2).length := by omega
   have h35 := (SliceOf.kp f2 O27 (fun _ _ h => h) (fun _ _ _ _ h => h))
   obtain ⟨m30, hm31, ok32, hA33⟩ := Row.el KRef h35 hk29
   have E34 : ∀ W, Only NoF w19 W → CA W (eA A2 2 (k)) [.int .i64 (m30.h), .int .i64 (m30.n)] := Row.ce KRef h35 hm31 rfl
   refine M (r_ia (k := k) (size := 2) Tryz.underlying35 Tryz.sizeOf59 Z rfl rfl rfl hk29 hA33) Z rfl rfl ?_; clear Z az; intro az Z
   refine M (r_ldA Tryz.isAgg59 Tryz.sizeOf59 Z rfl (E34 _ (Only.refl NoF w19)) rfl) Z rfl rfl ?_; clear Z az; intro az Z
   refine M (r_neA guardRef (fun w => neqRef w m22 m30) Z rfl rfl) Z rfl rfl ?_; clear Z az; intro az Z
   refine wpMix_nil ?_
   refine k18 _ _ ?_
   refine br Z rfl (fun hc36 => ?_) (fun hc36 => ?_)
   ·
    have p37 := of_decide_eq_false (nt_t hc36)
    refine wp_seq_k fun _ k38 => wp_region_lit ?_
    refine L (r_as Z rfl) Z rfl ?_; clear Z az; intro az Z
    refine k38 _ _ ?_
    refine wp_ret ?_
    show bodyPost _ _ _ .ret _ _
    refine ret_of (vs := [.bool (false)]) Z Tryz.results19 ⟨rfl, trivial⟩ ?_
    rw [decide_eq_false (same_ne hm23 hm31 hc36)]; exact ⟨rfl, O27⟩
   ·
    have p39 := of_decide_eq_true (nt_f hc36)
    refine wp_skip ?_
    refine k17 _ _ ?_
    refine wp_region_lit ?_
    refine L (r_mv Z rfl) Z rfl ?_; clear Z az; intro az Z
    have i40 : I64 (((k : Int) + 1)) := by unfold I64; omega
    refine L (r_addI (r := ((k : Int) + 1)) Z rfl rfl rfl i40) Z rfl ?_; clear Z az; intro az Z
    refine L (r_as Z rfl) Z rfl ?_; clear Z az; intro az Z
    exact ⟨_, (by omega), k + 1, rfl, Z.cut ⟨rfl, rfl, rfl, trivial⟩, (by omega), (same_step hm23 hm31 heq hc36), O27⟩
  ·
   have p41 := of_decide_eq_false hc15
   refine wp_exit ?_
   refine th_exit ?_
   refine th_exit ?_
   refine ib_hit ?_
   refine k8 _ _ (wp_seq_k fun _ k42 => wp_region_lit ?_)
   refine L (r_as Z rfl) Z rfl ?_; clear Z az; intro az Z
   refine k42 _ _ ?_
   refine wp_ret ?_
   show bodyPost _ _ _ .ret _ _
   refine ret_of (vs := [.bool (true)]) Z Tryz.results19 ⟨rfl, trivial⟩ ?_
   have hk2 : l.length = l2.length := by omega
   rw [List.take_of_length_le (by omega), List.take_of_length_le (by omega)] at heq
   rw [decide_eq_true heq]; exact ⟨rfl, o11⟩
theorem rSame_v {w : World} {m m2 : NM} (h1 : RefsV w (.slice m.A m.l.length m.c) m.l) (h2 : RefsV w (.slice m2.A m2.l.length m2.c) m2.l) : Calls Tryz.prog 33 [.agg #[.int .i64 m.h, .int .i64 m.n, .int .i64 m.d, .slice m.A m.l.length m.c, strV m.s], .agg #[.int .i64 m2.h, .int .i64 m2.n, .int .i64 m2.d, .slice m2.A m2.l.length m2.c, strV m2.s]].toArray w (Fix (.bool (same m m2)) w) := by
 refine calls_start Tryz.func33 rfl rfl ?_
 intro az Z
 rw [Tryz.ntmps33] at Z
 refine wp_seq_k fun _ k1 => wp_region_lit ?_
 refine LBox Z rfl rfl rfl ?_
 clear Z az; intro g2 w3 hg6 hl7 o4 B5 az Z
 refine LBox Z rfl rfl rfl ?_
 clear Z az; intro g8 w9 hg12 hl13 o10 B11 az Z
 refine L (r_as Z rfl) Z rfl ?_; clear Z az; intro az Z
 refine k1 _ _ (wp_seq_k fun _ k14 => wp_region_lit ?_)
 refine L (r_fa (m' := 0) Tryz.underlying43 rfl Tryz.sizeOf3 rfl Z rfl rfl) Z rfl ?_; clear Z az; intro az Z
 have B15 := (Blk.k B5 o10)
 refine L (r_ld Tryz.isAgg3 Z rfl ((Blk.ca B15) 0 _ rfl)) Z rfl ?_; clear Z az; intro az Z
 refine L (r_fa (m' := 0) Tryz.underlying43 rfl Tryz.sizeOf3 rfl Z rfl rfl) Z rfl ?_; clear Z az; intro az Z
 refine L (r_ld Tryz.isAgg3 Z rfl ((Blk.ca B11) 0 _ rfl)) Z rfl ?_; clear Z az; intro az Z
 refine L (r_eqI Z rfl rfl) Z rfl ?_; clear Z az; intro az Z
 refine L (r_mv Z rfl) Z rfl ?_; clear Z az; intro az Z
 refine LG Z rfl rfl gd_t (fun hb => r_fa (m' := 1) Tryz.underlying43 rfl Tryz.sizeOf3 rfl Z rfl rfl) rfl ?_; clear Z az; intro az Z
 refine LG Z rfl rfl gd_t (fun hb => r_ld Tryz.isAgg3 Z (evg hb rfl) ((Blk.ca B15) 1 _ rfl)) rfl ?_; clear Z az; intro az Z
 refine LG Z rfl rfl gd_t (fun hb => r_fa (m' := 1) Tryz.underlying43 rfl Tryz.sizeOf3 rfl Z rfl rfl) rfl ?_; clear Z az; intro az Z
 refine LG Z rfl rfl gd_t (fun hb => r_ld Tryz.isAgg3 Z (evg hb rfl) ((Blk.ca B11) 1 _ rfl)) rfl ?_; clear Z az; intro az Z
 refine LG Z rfl rfl gd_t (fun hb => r_eqI Z (evg hb rfl) (evg hb rfl)) rfl ?_; clear Z az; intro az Z
 refine L (r_and Z rfl rfl rfl) Z rfl ?_; clear Z az; intro az Z
 refine L (r_mv Z rfl) Z rfl ?_; clear Z az; intro az Z
 refine LG Z rfl rfl gd_t (fun hb => r_fa (m' := 2) Tryz.underlying43 rfl Tryz.sizeOf3 rfl Z rfl rfl) rfl ?_; clear Z az; intro az Z
 refine LG Z rfl rfl gd_t (fun hb => r_ld Tryz.isAgg3 Z (evg hb rfl) ((Blk.ca B15) 2 _ rfl)) rfl ?_; clear Z az; intro az Z
 refine LG Z rfl rfl gd_t (fun hb => r_fa (m' := 2) Tryz.underlying43 rfl Tryz.sizeOf3 rfl Z rfl rfl) rfl ?_; clear Z az; intro az Z
 refine LG Z rfl rfl gd_t (fun hb => r_ld Tryz.isAgg3 Z (evg hb rfl) ((Blk.ca B11) 2 _ rfl)) rfl ?_; clear Z az; intro az Z
 refine LG Z rfl rfl gd_t (fun hb => r_eqI Z (evg hb rfl) (evg hb rfl)) rfl ?_; clear Z az; intro az Z
 refine L (r_and Z rfl rfl rfl) Z rfl ?_; clear Z az; intro az Z
 refine L (r_mv Z rfl) Z rfl ?_; clear Z az; intro az Z
 refine LG Z rfl rfl gd_t (fun hb => r_fa (m' := 4) Tryz.underlying43 rfl Tryz.sizeOf9 rfl Z rfl rfl) rfl ?_; clear Z az; intro az Z
 refine LG Z rfl rfl gd_t (fun hb => r_ld Tryz.isAgg9 Z (evg hb rfl) ((Blk.ca B15) 4 _ rfl)) rfl ?_; clear Z az; intro az Z
 refine LG Z rfl rfl gd_t (fun hb => r_fa (m' := 4) Tryz.underlying43 rfl Tryz.sizeOf9 rfl Z rfl rfl) rfl ?_; clear Z az; intro az Z
 refine LG Z rfl rfl gd_t (fun hb => r_ld Tryz.isAgg9 Z (evg hb rfl) ((Blk.ca B11) 4 _ rfl)) rfl ?_; clear Z az; intro az Z
 refine LG Z rfl rfl gd_t (fun hb => r_eqS Z (evg hb rfl) (evg hb rfl)) rfl ?_; clear Z az; intro az Z
 refine L (r_and Z rfl rfl rfl) Z rfl ?_; clear Z az; intro az Z
 refine L (r_mv Z rfl) Z rfl ?_; clear Z az; intro az Z
 refine LG Z rfl rfl gd_t (fun hb => r_fa (m' := 3) Tryz.underlying43 rfl Tryz.sizeOf35 rfl Z rfl rfl) rfl ?_; clear Z az; intro az Z
 refine LG Z rfl rfl gd_t (fun hb => r_ld Tryz.isAgg35 Z (evg hb rfl) ((Blk.ca B15) 3 _ rfl)) rfl ?_; clear Z az; intro az Z
 refine LG Z rfl rfl gd_t (fun hb => r_fa (m' := 3) Tryz.underlying43 rfl Tryz.sizeOf35 rfl Z rfl rfl) rfl ?_; clear Z az; intro az Z
 refine LG Z rfl rfl gd_t (fun hb => r_ld Tryz.isAgg35 Z (evg hb rfl) ((Blk.ca B11) 3 _ rfl)) rfl ?_; clear Z az; intro az Z
 have O16 : Only NoF w w9 := (Only.trans' o4 o10)
 have h17 := (SliceOf.kp h1 O16 (fun _ _ h => h) (fun _ _ _ _ h => h))
 have h18 := (SliceOf.kp h2 O16 (fun _ _ h => h) (fun _ _ _ _ h => h))
 refine LGV (v := .bool (decide (m.l = m2.l))) Z rfl rfl gd_t rfl (fun hb => (evs_c (evg hb rfl) (evs_c (evg hb rfl) rfl))) Tryz.call19 (fun hb => rSameRefs_v_ h17 h18) rfl fun w19 o20 => ?_; clear Z az; intro az Z
 refine L (r_and Z rfl rfl rfl) Z rfl ?_; clear Z az; intro az Z
 refine L (r_as Z rfl) Z rfl ?_; clear Z az; intro az Z
 refine k14 _ _ ?_
 refine wp_ret ?_
 show bodyPost _ _ _ .ret _ _
 refine ret_of (vs := [.bool ((((((decide (m.h = m2.h)) && (decide (m.n = m2.n))) && (decide (m.d = m2.d))) && (decide (m.s = m2.s))) && (decide (m.l = m2.l))))]) Z Tryz.results33 ⟨rfl, trivial⟩ ?_
 have O21 : Only NoF w w19 := (Only.trans' O16 o20)
 rw [← rSame_eq]; exact ⟨rfl, O21⟩
theorem rLess_v (w : World) (a b : RM) : Calls Tryz.prog 94 [.agg #[.int .i64 a.h, .int .i64 a.n], .agg #[.int .i64 b.h, .int .i64 b.n]].toArray w (Fix (.bool (refLt a b)) w) := by
 refine calls_start Tryz.func94 rfl rfl ?_
 intro az Z
 rw [Tryz.ntmps94] at Z
 refine wp_seq_k fun _ k1 => wp_region_lit ?_
 refine LBox Z rfl rfl rfl ?_
 clear Z az; intro g2 w3 hg6 hl7 o4 B5 az Z
 refine LBox Z rfl rfl rfl ?_
 clear Z az; intro g8 w9 hg12 hl13 o10 B11 az Z
 refine L (r_as Z rfl) Z rfl ?_; clear Z az; intro az Z
 refine k1 _ _ (wp_seq_k fun _ k14 => wp_region_lit ?_)
 refine L (r_fa (m' := 0) Tryz.underlying59 rfl Tryz.sizeOf3 rfl Z rfl rfl) Z rfl ?_; clear Z az; intro az Z
 have B15 := (Blk.k B5 o10)
 refine L (r_ld Tryz.isAgg3 Z rfl ((Blk.ca B15) 0 _ rfl)) Z rfl ?_; clear Z az; intro az Z
 refine L (r_fa (m' := 0) Tryz.underlying59 rfl Tryz.sizeOf3 rfl Z rfl rfl) Z rfl ?_; clear Z az; intro az Z
 refine L (r_ld Tryz.isAgg3 Z rfl ((Blk.ca B11) 0 _ rfl)) Z rfl ?_; clear Z az; intro az Z
 refine L (r_ltI Z rfl rfl) Z rfl ?_; clear Z az; intro az Z
 refine L (r_mv Z rfl) Z rfl ?_; clear Z az; intro az Z
 refine LG Z rfl rfl gd_f (fun hb => r_fa (m' := 0) Tryz.underlying59 rfl Tryz.sizeOf3 rfl Z rfl rfl) rfl ?_; clear Z az; intro az Z
 refine LG Z rfl rfl gd_f (fun hb => r_ld Tryz.isAgg3 Z (evg hb rfl) ((Blk.ca B15) 0 _ rfl)) rfl ?_; clear Z az; intro az Z
 refine LG Z rfl rfl gd_f (fun hb => r_fa (m' := 0) Tryz.underlying59 rfl Tryz.sizeOf3 rfl Z rfl rfl) rfl ?_; clear Z az; intro az Z
 refine LG Z rfl rfl gd_f (fun hb => r_ld Tryz.isAgg3 Z (evg hb rfl) ((Blk.ca B11) 0 _ rfl)) rfl ?_; clear Z az; intro az Z
 refine LG Z rfl rfl gd_f (fun hb => r_eqI Z (evg hb rfl) (evg hb rfl)) rfl ?_; clear Z az; intro az Z
 refine LG Z rfl rfl gd_f (fun hb => r_mv Z (evg hb rfl)) rfl ?_; clear Z az; intro az Z
 refine LG Z rfl rfl gd_gt (fun hb => r_fa (m' := 1) Tryz.underlying59 rfl Tryz.sizeOf3 rfl Z rfl rfl) rfl ?_; clear Z az; intro az Z
 refine LG Z rfl rfl gd_gt (fun hb => r_ld Tryz.isAgg3 Z (evg hb rfl) ((Blk.ca B15) 1 _ rfl)) rfl ?_; clear Z az; intro az Z
 refine LG Z rfl rfl gd_gt (fun hb => r_fa (m' := 1) Tryz.underlying59 rfl Tryz.sizeOf3 rfl Z rfl rfl) rfl ?_; clear Z az; intro az Z
 refine LG Z rfl rfl gd_gt (fun hb => r_ld Tryz.isAgg3 Z (evg hb rfl) ((Blk.ca B11) 1 _ rfl)) rfl ?_; clear Z az; intro az Z
 refine LG Z rfl rfl gd_gt (fun hb => r_ltI Z (evg hb rfl) (evg hb rfl)) rfl ?_; clear Z az; intro az Z
 refine LG Z rfl rfl gd_f (fun hb => r_and Z (evg hb rfl) (evgc hb rfl) rfl) rfl ?_; clear Z az; intro az Z
 refine L (r_or Z rfl rfl rfl) Z rfl ?_; clear Z az; intro az Z
 refine L (r_as Z rfl) Z rfl ?_; clear Z az; intro az Z
 refine k14 _ _ ?_
 refine wp_ret ?_
 show bodyPost _ _ _ .ret _ _
 refine ret_of (vs := [.bool (((decide (a.h < b.h)) || ((decide (a.h = b.h)) && (decide (a.n < b.n)))))]) Z Tryz.results94 ⟨rfl, trivial⟩ ?_
 have O16 : Only NoF w w9 := (Only.trans' o4 o10)
 exact ⟨rfl, O16⟩
theorem rin_v (w : World) (x a b : Int) : Calls Tryz.prog 93 [.int .i64 x, .int .i64 a, .int .i64 b].toArray w (Fix (.bool (decide (a ≤ x) && decide (x ≤ b))) w) := by
 refine calls_start Tryz.func93 rfl rfl ?_
 intro az Z
 rw [Tryz.ntmps93] at Z
 refine wp_seq_k fun _ k1 => wp_region_lit ?_
 refine L (r_as Z rfl) Z rfl ?_; clear Z az; intro az Z
 refine k1 _ _ (wp_seq_k fun _ k2 => wp_region_lit ?_)
 refine L (r_mv Z rfl) Z rfl ?_; clear Z az; intro az Z
 refine L (r_mv Z rfl) Z rfl ?_; clear Z az; intro az Z
 refine L (r_geI Z rfl rfl) Z rfl ?_; clear Z az; intro az Z
 refine L (r_mv Z rfl) Z rfl ?_; clear Z az; intro az Z
 refine LG Z rfl rfl gd_t (fun hb => r_mv Z rfl) rfl ?_; clear Z az; intro az Z
 refine LG Z rfl rfl gd_t (fun hb => r_mv Z rfl) rfl ?_; clear Z az; intro az Z
 refine LG Z rfl rfl gd_t (fun hb => r_leI Z (evg hb rfl) (evg hb rfl)) rfl ?_; clear Z az; intro az Z
 refine L (r_and Z rfl rfl rfl) Z rfl ?_; clear Z az; intro az Z
 refine L (r_as Z rfl) Z rfl ?_; clear Z az; intro az Z
 refine k2 _ _ ?_
 refine wp_ret ?_
 show bodyPost _ _ _ .ret _ _
 refine ret_of (vs := [.bool (((decide (a ≤ x)) && (decide (x ≤ b))))]) Z Tryz.results93 ⟨rfl, trivial⟩ ?_
 exact ⟨rfl, (Only.refl NoF w)⟩
theorem Check_v_ {w : World} {l : List NM} {A1 : Option Addr} {c1 : Nat} (f1 : NotesV w w (.slice A1 l.length c1) l) : Calls Tryz.prog 96 [.slice A1 l.length c1].toArray w (Fix (.int .i64 (check l)) w) := by
 refine calls_start Tryz.func96 rfl rfl ?_
 intro az Z
 rw [Tryz.ntmps96] at Z
 refine wp_seq_k fun _ k1 => wp_region_lit ?_
 refine L (r_as Z rfl) Z rfl ?_; clear Z az; intro az Z
 refine k1 _ _ (wp_seq_k fun _ k2 => ?_)
 refine wp_seq_k fun _ k3 => wp_region_lit ?_
 refine L (r_mv Z rfl) Z rfl ?_; clear Z az; intro az Z
 refine L (r_lenL Tryz.underlying22 Z rfl) Z rfl ?_; clear Z az; intro az Z
 refine L (r_gtI Z rfl rfl) Z rfl ?_; clear Z az; intro az Z
 refine k3 _ _ ?_
 refine br Z rfl (fun hc4 => ?_) (fun hc4 => ?_)
 ·
  have p5 := of_decide_eq_true hc4
  refine wp_seq_k fun _ k6 => wp_region_lit ?_
  refine L (r_as Z rfl) Z rfl ?_; clear Z az; intro az Z
  refine k6 _ _ ?_
  refine wp_ret ?_
  show bodyPost _ _ _ .ret _ _
  refine ret_of (vs := [.int .i64 (6)]) Z Tryz.results96 ⟨rfl, trivial⟩ ?_
  rw [check_many hc4]; exact ⟨rfl, (Only.refl NoF w)⟩
 ·
  have p7 := of_decide_eq_false hc4
  refine wp_skip ?_
  refine k2 _ _ (wp_seq_k fun _ k8 => wp_region_lit ?_)
  refine L (r_as Z rfl) Z rfl ?_; clear Z az; intro az Z
  refine k8 _ _ (wp_seq_k fun _ k9 => ?_)
  refine wp_seq_k fun _ k10 => wp_region_lit ?_
  refine L (r_mv Z rfl) Z rfl ?_; clear Z az; intro az Z
  refine L (r_lenL Tryz.underlying22 Z rfl) Z rfl ?_; clear Z az; intro az Z
  refine L (r_mv Z rfl) Z rfl ?_; clear Z az; intro az Z
  refine k10 _ _ ?_
  refine wp_block ?_
  refine wp_loop_m (fun mz az W => ∃ k : Nat, ∃ D : Int, mz = l.length - k ∧ Fr 46 [(0, .slice A1 (l.length) c1), (9, .slice A1 (l.length) c1), (10, .int .i64 (((l.length : Nat) : Int))), (11, .int .i64 ((k : Int))), (3, .int .i64 (D))] az ∧ (k ≤ l.length) ∧ (chk (hdH l) 0 0 l = chk (hdH l) k D (l.drop k)) ∧ Only NoF w W) ?_ ?_
  ·
   exact ⟨_, 0, 0, rfl, Z.cut ⟨rfl, rfl, rfl, rfl, rfl, trivial⟩, Nat.zero_le _, rfl, (Only.refl NoF w)⟩
  clear Z az
  rintro mz az w11 ⟨k, D, hm13, Z, hk, hck, o12⟩
  refine wp_seq_k fun _ k14 => wp_region_lit ?_
  refine L (r_ltI Z rfl rfl) Z rfl ?_; clear Z az; intro az Z
  refine k14 _ _ (wp_seq_k fun _ k15 => ?_)
  refine br Z rfl (fun hc16 => ?_) (fun hc16 => ?_)
  ·
   have p17 := of_decide_eq_true hc16
   refine wp_skip ?_
   refine k15 _ _ (wp_seq_k fun _ k18 => ?_)
   refine wp_block ?_
   refine wp_seq_k fun _ k19 => wp_region_lit ?_
   refine L (r_mv Z rfl) Z rfl ?_; clear Z az; intro az Z
   have hk20 : k < (l).length := by omega
   have h26 := (SliceOf.kp f1 o12 (fun _ _ h => h) (fun _ _ _ _ h => h))
   obtain ⟨m21, hm22, ok23, hA24⟩ := Row.el (KNote w) h26 hk20
   have E25 : ∀ W, Only NoF w11 W → CA W (eA A1 5 (k)) [.int .i64 (m21.h), .int .i64 (m21.n), .int .i64 (m21.d), .slice m21.A (m21.l.length) m21.c, strV (m21.s)] := Row.ce (KNote w) h26 hm22 rfl
   refine L (r_ia (k := k) (size := 5) Tryz.underlying22 Tryz.sizeOf43 Z rfl rfl rfl hk20 hA24) Z rfl ?_; clear Z az; intro az Z
   refine L (r_ldA Tryz.isAgg43 Tryz.sizeOf43 Z rfl (E25 _ (Only.refl NoF w11)) rfl) Z rfl ?_; clear Z az; intro az Z
   refine LAl (v := .agg #[.int .i64 (0), .int .i64 (0), .int .i64 (0), .slice none (0) 0, strV ([])]) Tryz.zeroValue43 Z rfl rfl ?_
   clear Z az; intro g27 w28 hg31 hl32 o29 B30 az Z
   refine L (r_as Z rfl) Z rfl ?_; clear Z az; intro az Z
   refine LSt (cs' := [.int .i64 (m21.h), .int .i64 (m21.n), .int .i64 (m21.d), .slice m21.A (m21.l.length) m21.c, strV (m21.s)]) Tryz.sizeOf43 Z rfl rfl rfl rfl rfl ⟨rfl, rfl, rfl, rfl, rfl, trivial⟩ B30 rfl rfl fun w33 s34 B35 => ?_
   refine k19 _ _ (wp_seq_k fun _ k36 => ?_)
   refine wp_block ?_
   refine wp_seq_k fun _ k37 => wp_region_lit ?_
   refine L (r_ldA Tryz.isAgg43 Tryz.sizeOf43 Z rfl (Blk.ca B35) rfl) Z rfl ?_; clear Z az; intro az Z
   have O38 : Only NoF w w33 := (o_sg (Only.trans' o12 o29) s34 (size_only o12) (oneF_ge hg31))
   have h39 := (SliceOf.kp ok23.2.2.2.1 O38 (fun _ _ h => h) (fun _ _ _ _ h => h))
   refine LCV (v := .bool (right m21)) Z rfl rfl Tryz.call43 (Right_v h39) rfl fun w40 o41 => ?_; clear Z az; intro az Z
   refine L (r_not Z rfl) Z rfl ?_; clear Z az; intro az Z
   refine L (r_as Z rfl) Z rfl ?_; clear Z az; intro az Z
   refine k37 _ _ ?_
   refine br Z rfl (fun hc42 => ?_) (fun hc42 => ?_)
   ·
    have q43 : right m21 = false := (nt_t hc42)
    refine wp_seq_k fun _ k44 => wp_region_lit ?_
    refine L (r_as Z rfl) Z rfl ?_; clear Z az; intro az Z
    refine k44 _ _ ?_
    refine wp_ret ?_
    show bodyPost _ _ _ .ret _ _
    refine ret_of (vs := [.int .i64 (1)]) Z Tryz.results96 ⟨rfl, trivial⟩ ?_
    have O45 : Only NoF w w40 := (Only.trans' O38 o41)
    rw [check_of hc4 hck]
    rw [chk_2 hm22 hc42]; exact ⟨rfl, O45⟩
   ·
    have q46 : right m21 = true := (nt_f hc42)
    refine wp_seq_k fun _ k47 => ?_
    refine reg_q [(true, 0), (true, 1), (true, 2), (true, 3), (true, 4), (true, 5), (true, 6), (true, 7)] (by kernel_rfl) (by kernel_rfl) (fun _ _ _ _ _ h => h) fun w48 o49 => ?_
    refine M (r_fa (m' := 0) Tryz.underlying43 rfl Tryz.sizeOf3 rfl Z rfl rfl) Z rfl rfl ?_; clear Z az; intro az Z
    have B50 := (Blk.k (Blk.k B35 o41) o49)
    refine M (r_ld Tryz.isAgg3 Z rfl ((Blk.ca B50) 0 _ rfl)) Z rfl rfl ?_; clear Z az; intro az Z
    refine M (r_mv Z rfl) Z rfl rfl ?_; clear Z az; intro az Z
    have hk51 : 0 < (l).length := by omega
    have O57 : Only NoF w w48 := (Only.trans' (Only.trans' O38 o41) o49)
    have h58 := (SliceOf.kp f1 O57 (fun _ _ h => h) (fun _ _ _ _ h => h))
    obtain ⟨m52, hm53, ok54, hA55⟩ := Row.el (KNote w) h58 hk51
    have E56 : ∀ W, Only NoF w48 W → CA W (eA A1 5 (0)) [.int .i64 (m52.h), .int .i64 (m52.n), .int .i64 (m52.d), .slice m52.A (m52.l.length) m52.c, strV (m52.s)] := Row.ce (KNote w) h58 hm53 rfl
    refine M (r_ia (k := 0) (size := 5) Tryz.underlying22 Tryz.sizeOf43 Z rfl rfl rfl hk51 hA55) Z rfl rfl ?_; clear Z az; intro az Z
    refine M (r_fa (m' := 0) Tryz.underlying43 rfl Tryz.sizeOf3 rfl Z rfl rfl) Z rfl rfl ?_; clear Z az; intro az Z
    refine M (r_ld Tryz.isAgg3 Z rfl ((E56 _ (Only.refl NoF w48)) 0 _ rfl)) Z rfl rfl ?_; clear Z az; intro az Z
    refine M (r_neI Z rfl rfl) Z rfl rfl ?_; clear Z az; intro az Z
    refine M (r_as Z rfl) Z rfl rfl ?_; clear Z az; intro az Z
    refine wpMix_nil ?_
    refine k47 _ _ ?_
    refine br Z rfl (fun hc59 => ?_) (fun hc59 => ?_)
    ·
     have p60 := of_decide_eq_false (nt_t hc59)
     refine wp_seq_k fun _ k61 => wp_region_lit ?_
     refine L (r_as Z rfl) Z rfl ?_; clear Z az; intro az Z
     refine k61 _ _ ?_
     refine wp_ret ?_
     show bodyPost _ _ _ .ret _ _
     refine ret_of (vs := [.int .i64 (19)]) Z Tryz.results96 ⟨rfl, trivial⟩ ?_
     rw [check_of hc4 hck]
     rw [chk_3 hm22 hc42 (by rw [← hdH_of hm53]; exact hc59)]; exact ⟨rfl, O57⟩
    ·
     have p62 := of_decide_eq_true (nt_f hc59)
     refine wp_seq_k fun _ k63 => wp_region_lit ?_
     refine L (r_fa (m' := 1) Tryz.underlying43 rfl Tryz.sizeOf3 rfl Z rfl rfl) Z rfl ?_; clear Z az; intro az Z
     refine L (r_ld Tryz.isAgg3 Z rfl ((Blk.ca B50) 1 _ rfl)) Z rfl ?_; clear Z az; intro az Z
     refine L (r_mv Z rfl) Z rfl ?_; clear Z az; intro az Z
     refine L (r_gtI Z rfl rfl) Z rfl ?_; clear Z az; intro az Z
     refine L (r_as Z rfl) Z rfl ?_; clear Z az; intro az Z
     refine k63 _ _ ?_
     refine br Z rfl (fun hc64 => ?_) (fun hc64 => ?_)
     ·
      have p65 := of_decide_eq_true hc64
      refine wp_seq_k fun _ k66 => wp_region_lit ?_
      refine L (r_as Z rfl) Z rfl ?_; clear Z az; intro az Z
      refine k66 _ _ ?_
      refine wp_ret ?_
      show bodyPost _ _ _ .ret _ _
      refine ret_of (vs := [.int .i64 (21)]) Z Tryz.results96 ⟨rfl, trivial⟩ ?_
      rw [check_of hc4 hck]
      rw [chk_4 hm22 hc42 (by rw [← hdH_of hm53]; exact hc59) hc64]; exact ⟨rfl, O57⟩
     ·
      have p67 := of_decide_eq_false hc64
      refine wp_seq_k fun _ k68 => wp_region_lit ?_
      refine L (r_fa (m' := 1) Tryz.underlying43 rfl Tryz.sizeOf3 rfl Z rfl rfl) Z rfl ?_; clear Z az; intro az Z
      refine L (r_ld Tryz.isAgg3 Z rfl ((Blk.ca B50) 1 _ rfl)) Z rfl ?_; clear Z az; intro az Z
      refine L (r_mv Z rfl) Z rfl ?_; clear Z az; intro az Z
      refine L (r_ltI Z rfl rfl) Z rfl ?_; clear Z az; intro az Z
      refine L (r_as Z rfl) Z rfl ?_; clear Z az; intro az Z
      refine k68 _ _ ?_
      refine br Z rfl (fun hc69 => ?_) (fun hc69 => ?_)
      ·
       have p70 := of_decide_eq_true hc69
       refine wp_seq_k fun _ k71 => wp_region_lit ?_
       refine L (r_as Z rfl) Z rfl ?_; clear Z az; intro az Z
       refine k71 _ _ ?_
       refine wp_ret ?_
       show bodyPost _ _ _ .ret _ _
       refine ret_of (vs := [.int .i64 (5)]) Z Tryz.results96 ⟨rfl, trivial⟩ ?_
       rw [check_of hc4 hck]
       rw [chk_5 hm22 hc42 (by rw [← hdH_of hm53]; exact hc59) hc64 hc69]; exact ⟨rfl, O57⟩
      ·
       have p72 := of_decide_eq_false hc69
       refine wp_seq_k fun _ k73 => wp_region_lit ?_
       refine L (r_fa (m' := 2) Tryz.underlying43 rfl Tryz.sizeOf3 rfl Z rfl rfl) Z rfl ?_; clear Z az; intro az Z
       refine L (r_ld Tryz.isAgg3 Z rfl ((Blk.ca B50) 2 _ rfl)) Z rfl ?_; clear Z az; intro az Z
       refine L (r_mv Z rfl) Z rfl ?_; clear Z az; intro az Z
       refine L (r_ltI Z rfl rfl) Z rfl ?_; clear Z az; intro az Z
       refine L (r_as Z rfl) Z rfl ?_; clear Z az; intro az Z
       refine k73 _ _ ?_
       refine br Z rfl (fun hc74 => ?_) (fun hc74 => ?_)
       ·
        have p75 := of_decide_eq_true hc74
        refine wp_seq_k fun _ k76 => wp_region_lit ?_
        refine L (r_as Z rfl) Z rfl ?_; clear Z az; intro az Z
        refine k76 _ _ ?_
        refine wp_ret ?_
        show bodyPost _ _ _ .ret _ _
        refine ret_of (vs := [.int .i64 (18)]) Z Tryz.results96 ⟨rfl, trivial⟩ ?_
        rw [check_of hc4 hck]
        rw [chk_6 hm22 hc42 (by rw [← hdH_of hm53]; exact hc59) hc64 hc69 hc74]; exact ⟨rfl, O57⟩
       ·
        have p77 := of_decide_eq_false hc74
        refine wp_skip ?_
        refine k36 _ _ ?_
        refine wp_region_lit ?_
        refine L (r_fa (m' := 2) Tryz.underlying43 rfl Tryz.sizeOf3 rfl Z rfl rfl) Z rfl ?_; clear Z az; intro az Z
        refine L (r_ld Tryz.isAgg3 Z rfl ((Blk.ca B50) 2 _ rfl)) Z rfl ?_; clear Z az; intro az Z
        refine L (r_as Z rfl) Z rfl ?_; clear Z az; intro az Z
        refine k18 _ _ ?_
        refine wp_region_lit ?_
        have i78 : I64 (((k : Int) + 1)) := by unfold I64; omega
        refine L (r_addI (r := ((k : Int) + 1)) Z rfl rfl rfl i78) Z rfl ?_; clear Z az; intro az Z
        refine L (r_mv Z rfl) Z rfl ?_; clear Z az; intro az Z
        exact ⟨_, (by omega), k + 1, m21.d, rfl, Z.cut ⟨rfl, rfl, rfl, rfl, rfl, trivial⟩, (by omega), (by rw [hck, chk_next hm22 hc42 (by rw [← hdH_of hm53]; exact hc59) hc64 hc69 hc74]), O57⟩
  ·
   have p79 := of_decide_eq_false hc16
   refine wp_exit ?_
   refine th_exit ?_
   refine th_exit ?_
   refine ib_hit ?_
   refine k9 _ _ (wp_seq_k fun _ k80 => wp_region_lit ?_)
   refine L (r_as Z rfl) Z rfl ?_; clear Z az; intro az Z
   refine k80 _ _ ?_
   refine wp_ret ?_
   show bodyPost _ _ _ .ret _ _
   refine ret_of (vs := [.int .i64 (0)]) Z Tryz.results96 ⟨rfl, trivial⟩ ?_
   rw [check_of hc4 hck]
   rw [List.drop_of_length_le (by omega)]; exact ⟨rfl, o12⟩
end
section
open Go.RowKit
theorem info_Ref : (Tryz.prog.info? 59).map (fun i => (i.zero, i.size, i.bytes)) = some (some (.agg #[.int .i64 0, .int .i64 0]), 2, 16) := by kernel_rfl
theorem cloneRef_c (w : World) (S : Nat → Prop) (A : Option Addr) (n cap : Nat) (xs : List Value) (hr : Reads w S 2 A n xs) (h1 : ∀ u ∈ xs, u.oneCell' = true) (hn : n ≤ 100000000) :
 Calls Tryz.prog 52 #[.slice A n cap] w fun e w' => ∃ A' c', e = .returned (.slice A' n c') ∧ Only NoF w w' ∧ w'.ownsRow w.heap.size 59 2 (.slice A' n c') n xs := by
 cases A with
 | none =>
  have he := fun W : World => Lib.run_eql_slice_nil (P := Tryz.prog) W 35 59 none n cap 0 0 Tryz.underlying35
  have h0 : n = 0 := by
   rcases Nat.eq_zero_or_pos n with h0 | h0
   · exact h0
   · obtain ⟨ad, h, _⟩ := hr.2 h0
     cases h
  subst h0
  obtain rfl : xs = [] := List.eq_nil_of_length_eq_zero (by simpa using hr.1)
  clear hr h1
  go_enter Tryz.func52, Tryz.ntmps52
  go_wp2
  go_ret
  exact ⟨_, _, rfl, Only.refl _ _, World.ownsRow_nil _ _ _ _⟩
 | some ad =>
  have he := fun W : World => Lib.run_eql_slice_nil (P := Tryz.prog) W 35 59 (some ad) n cap 0 0 Tryz.underlying35
  obtain ⟨i, hi, hz0, hz1, hz2⟩ := info_parts info_Ref
  have hr' : Reads (w.alloc (.cells #[] 59)) S 2 (some ad) n xs := hr.keep (by simp) fun p _ hp => World.cell?_alloc_lt w _ p hp
  have hown := World.ownsRow_made (base := w.heap.size) (e := 59) (size := 2) w #[] 0 (Nat.le_refl _) (Nat.zero_le _) rfl
  go_enter Tryz.func52, Tryz.ntmps52
  go_wp2_with (at_builtin; refine wpList_append_any _ rfl _ _ _ rfl w.heap.size 59 i _ 2 16 Tryz.underlying35 hi hz0 hz1 hz2 rfl (by decide) (.slice (some ⟨w.heap.size, 0, none⟩) 0 0) 0 [] rfl hown S (some ad) n cap xs rfl hr' h1 (by unfold maxLen; omega) (by omega) (by simp) ?_; intro v' w1 hown1 hgrow _)
  go_ret
  simp only [Nat.zero_add, List.nil_append] at hown1
  obtain ⟨A', c', e1, _⟩ := Reads.of_own hown1
  refine ⟨A', c', by rw [← e1]; rfl, ((Only.refl _ _).alloc _).grown hgrow fun k hk => .inr ?_, ?_⟩
  · simp [Value.ownBlock] at hk
    omega
  · rw [← e1]; exact hown1
end
section
open Go.RowKit
def flat2 (l : List RM) : List Int := l.flatMap fun r => [r.h, r.n]
theorem flat2_len (l : List RM) : (flat2 l).length = 2 * l.length := by
 induction l with
 | nil => rfl
 | cons x l ih => unfold flat2 at *; rw [List.flatMap_cons, List.length_append, ih]; simp only [List.length_cons, List.length_nil]; omega
def encN (m : NM) : Str := Wr.numE m.h ++ Wr.numE m.n ++ Wr.numE m.d ++ Wr.numsE (flat2 m.l) ++ Wr.textE m.s
theorem right_len {m : NM} (h : right m = true) : m.l.length ≤ 40 ∧ m.s.length ≤ 8000 := by
 unfold right headBad at h
 simp only [Bool.and_eq_true, Bool.not_eq_true', Bool.or_eq_false_iff, decide_eq_false_iff_not] at h
 omega
theorem text_size2 {s : Str} (h : s.length ≤ 1000000000) : (Wr.textE s).length ≤ s.length + 22 := by
 have := itoa_len ((s.length : Nat) : Int) (by omega) (by omega)
 simp only [Wr.textE, List.length_append, List.length_singleton]; omega
theorem intE_len {n : Int} (h : Wr.Ok n) : (Wr.intE n).length ≤ 21 := by
 have := itoa_len n h.1 h.2
 unfold Wr.intE; rw [List.length_append, List.length_singleton]; omega
theorem numE_len {n : Int} (h : Wr.Ok n) : (Wr.numE n).length ≤ 21 := by
 unfold Wr.numE
 split
 · simp
 · exact intE_len h
theorem ints_bytes {l : List Int} (h : ∀ x ∈ l, KInt.ok x) (hl : l.length ≤ 80) : (l.flatMap Wr.intE).length ≤ 1000000000 := by
 have := flat_len_le Wr.intE 21 l fun x hx => intE_len (wr_ok (h x hx))
 omega
theorem numsE_len {l : List Int} (h : ∀ x ∈ l, KInt.ok x) (hl : l.length ≤ 80) : (Wr.numsE l).length ≤ 2000 := by
 have := flat_len_le Wr.intE 21 l fun x hx => intE_len (wr_ok (h x hx))
 have := itoa_len ((l.length : Nat) : Int) (by omega) (by omega)
 simp only [Wr.numsE, Wr.listE, List.length_append, List.length_singleton]; omega
theorem Encode_v {w : World} (hG : Gr w) {m : NM} (hk1 : (KNote w).ok m) : Calls Tryz.prog 25 [.agg #[.int .i64 m.h, .int .i64 m.n, .int .i64 m.d, .slice m.A m.l.length m.c, strV m.s]].toArray w (Fix (.tuple #[strV (if right m = true then encN m else []), .bool (right m)]) w) := by
 obtain ⟨_, _, _, h1, _⟩ := id hk1
 refine calls_start Tryz.func25 rfl rfl ?_
 intro az Z
 rw [Tryz.ntmps25] at Z
 refine wp_seq_k fun _ k1 => wp_region_lit ?_
 refine LBox Z rfl rfl rfl ?_
 clear Z az; intro g2 w3 hg6 hl7 o4 B5 az Z
 refine L (r_as Z rfl) Z rfl ?_; clear Z az; intro az Z
 refine L (r_as Z rfl) Z rfl ?_; clear Z az; intro az Z
 refine k1 _ _ (wp_seq_k fun _ k8 => ?_)
 refine wp_seq_k fun _ k9 => wp_region_lit ?_
 refine L (r_ldA Tryz.isAgg43 Tryz.sizeOf43 Z rfl (Blk.ca B5) rfl) Z rfl ?_; clear Z az; intro az Z
 have h10 := (SliceOf.kp h1 o4 (fun _ _ h => h) (fun _ _ _ _ h => h))
 refine LCV (v := .bool (right m)) Z rfl rfl Tryz.call43 (Right_v h10) rfl fun w11 o12 => ?_; clear Z az; intro az Z
 refine L (r_not Z rfl) Z rfl ?_; clear Z az; intro az Z
 refine k9 _ _ ?_
 refine br Z rfl (fun hc13 => ?_) (fun hc13 => ?_)
 ·
  have q14 : right m = false := (nt_t hc13)
  refine wp_seq_k fun _ k15 => wp_region_lit ?_
  refine L (r_as Z rfl) Z rfl ?_; clear Z az; intro az Z
  refine L (r_as Z rfl) Z rfl ?_; clear Z az; intro az Z
  refine k15 _ _ ?_
  refine wp_ret ?_
  show bodyPost _ _ _ .ret _ _
  refine ret_of (vs := [strV ([]), .bool (false)]) Z Tryz.results25 ⟨rfl, rfl, trivial⟩ ?_
  have O16 : Only NoF w w11 := (Only.trans' o4 o12)
  rw [show right m = false from nt_t hc13]; exact ⟨rfl, O16⟩
 ·
  have q17 : right m = true := (nt_f hc13)
  have hrt : right m = true := nt_f hc13
  obtain ⟨hrl, hrs⟩ := right_len hrt
  refine wp_skip ?_
  refine k8 _ _ (wp_seq_k fun _ k18 => wp_region_lit ?_)
  refine L (r_as Z rfl) Z rfl ?_; clear Z az; intro az Z
  refine k18 _ _ (wp_seq_k fun _ k19 => ?_)
  refine wp_seq_k fun _ k20 => wp_region_lit ?_
  refine L (r_fa (m' := 3) Tryz.underlying43 rfl Tryz.sizeOf35 rfl Z rfl rfl) Z rfl ?_; clear Z az; intro az Z
  have B21 := (Blk.k B5 o12)
  refine L (r_ld Tryz.isAgg35 Z rfl ((Blk.ca B21) 3 _ rfl)) Z rfl ?_; clear Z az; intro az Z
  refine L (r_lenL Tryz.underlying35 Z rfl) Z rfl ?_; clear Z az; intro az Z
  refine L (r_mv Z rfl) Z rfl ?_; clear Z az; intro az Z
  refine k20 _ _ ?_
  refine wp_block ?_
  refine wp_loop_m (fun mz az W => ∃ k : Nat, ∃ O : List Int, ∃ Ao : Option Addr, ∃ co : Nat, mz = m.l.length - k ∧ Fr 43 [(1, .pointer (some ((⟨g2, 0, none⟩ : Addr)))), (11, .slice m.A (m.l.length) m.c), (12, .int .i64 (((m.l.length : Nat) : Int))), (13, .int .i64 ((k : Int))), (4, .slice Ao (O.length) co)] az ∧ (k ≤ m.l.length) ∧ (O = flat2 (m.l.take k)) ∧ (∀ z ∈ O, KInt.ok z) ∧ Only NoF w W ∧ Blk W g2 43 [.int .i64 (m.h), .int .i64 (m.n), .int .i64 (m.d), .slice m.A (m.l.length) m.c, strV (m.s)].toArray ∧ W.ownsRow w.heap.size 3 1 (.slice Ao O.length co) O.length (List.flatMap KInt.cells O)) ?_ ?_
  ·
   have O22 : Only NoF w w11 := (Only.trans' o4 o12)
   exact ⟨_, 0, [], none, 0, rfl, Z.cut ⟨rfl, rfl, rfl, rfl, rfl, trivial⟩, Nat.zero_le _, rfl, (fun z hz => by cases hz), O22, B21, (World.ownsRow_nil _ _ _ _)⟩
  clear Z az
  rintro mz az w23 ⟨k, O, Ao, co, hm25, Z, hk, hO, okO, o24, B26, rO⟩
  have hOl : O.length = 2 * k := by rw [hO, flat2_len, List.length_take]; omega
  refine wp_seq_k fun _ k27 => wp_region_lit ?_
  refine L (r_ltI Z rfl rfl) Z rfl ?_; clear Z az; intro az Z
  refine k27 _ _ (wp_seq_k fun _ k28 => ?_)
  refine br Z rfl (fun hc29 => ?_) (fun hc29 => ?_)
  ·
   have p30 := of_decide_eq_true hc29
   refine wp_skip ?_
   refine k28 _ _ (wp_seq_k fun _ k31 => ?_)
   refine wp_block ?_
   refine wp_seq_k fun _ k32 => wp_region_lit ?_
   have hk33 : k < (m.l).length := by omega
   have h39 := (SliceOf.kp h1 o24 (fun _ _ h => h) (fun _ _ _ _ h => h))
   obtain ⟨m34, hm35, ok36, hA37⟩ := Row.el KRef h39 hk33
   have E38 : ∀ W, Only NoF w23 W → CA W (eA m.A 2 (k)) [.int .i64 (m34.h), .int .i64 (m34.n)] := Row.ce KRef h39 hm35 rfl
   refine L (r_ia (k := k) (size := 2) Tryz.underlying35 Tryz.sizeOf59 Z rfl rfl rfl hk33 hA37) Z rfl ?_; clear Z az; intro az Z
   refine L (r_ldA Tryz.isAgg59 Tryz.sizeOf59 Z rfl (E38 _ (Only.refl NoF w23)) rfl) Z rfl ?_; clear Z az; intro az Z
   refine LAl (v := .agg #[.int .i64 (0), .int .i64 (0)]) Tryz.zeroValue59 Z rfl rfl ?_
   clear Z az; intro g40 w41 hg44 hl45 o42 B43 az Z
   refine LSt (cs' := [.int .i64 (m34.h), .int .i64 (m34.n)]) Tryz.sizeOf59 Z rfl rfl rfl rfl rfl ⟨rfl, rfl, trivial⟩ B43 rfl rfl fun w46 s47 B48 => ?_
   refine k32 _ _ ?_
   refine wp_region_lit ?_
   refine L (r_mv Z rfl) Z rfl ?_; clear Z az; intro az Z
   refine L (r_fa (m' := 0) Tryz.underlying59 rfl Tryz.sizeOf3 rfl Z rfl rfl) Z rfl ?_; clear Z az; intro az Z
   refine L (r_ld Tryz.isAgg3 Z rfl ((Blk.ca B48) 0 _ rfl)) Z rfl ?_; clear Z az; intro az Z
   refine L (r_fa (m' := 1) Tryz.underlying59 rfl Tryz.sizeOf3 rfl Z rfl rfl) Z rfl ?_; clear Z az; intro az Z
   refine L (r_ld Tryz.isAgg3 Z rfl ((Blk.ca B48) 1 _ rfl)) Z rfl ?_; clear Z az; intro az Z
   obtain ⟨A49, w50, hw, hA, r51, o52⟩ := Row.made (w := w46) KInt (e := 3) ([m34.h, m34.n] : List Int) (by simp only [List.length_cons, List.length_nil]; unfold maxLen; omega)
   refine L (r_bs (z := .int .i64 (0)) (size := 1) (vs := [(0, .int .i64 (m34.h)), (1, .int .i64 (m34.n))]) (cs := List.flatMap KInt.cells [m34.h, m34.n]) Tryz.underlying30 Tryz.sizeOf3 Tryz.zeroValue3 rfl (Fr.evalps Z rfl) (by kernel_rfl)) Z rfl ?_
   rw [← hw, ← hA]; clear Z az; intro az Z
   clear hw hA
   have ok53 : ∀ zq ∈ ([m34.h, m34.n] : List Int), KInt.ok zq := by intro zq hx; simp only [List.mem_cons, List.not_mem_nil, or_false] at hx; rcases hx with rfl | rfl <;> first | exact ok36.1 | exact ok36.2
   have r54 := (ow_k (ow_only (ow_k rO o42) s47 (fun k hk => lt_F (oneF_ge hg44) (Nat.le_refl _) k (ownF_lt rO k hk))) o52)
   have h55 := Row.own KInt r51 ok53
   have h56 := SliceOf.pl h55
   have hb64 : (List.length (O) + List.length ([m34.h, m34.n])) * 8 ≤ 140737488355328 := by simp only [List.length_cons, List.length_nil]; omega
   have O65 : Only NoF w w50 := (Only.trans' (o_sg (Only.trans' o24 o42) s47 (size_only o24) (oneF_ge hg44)) o52)
   obtain ⟨A57, c58, w59, hr60, r61, o62, al63⟩ := Row.app (P := Tryz.prog) (l := O) (l2 := [m34.h, m34.n]) KInt elemInt r54 h56 hb64 (by unfold maxLen; omega) (size_only O65)
   refine L (r_app hr60 Z rfl rfl) Z rfl ?_; clear Z az; intro az Z
   have ok66 : ∀ zq ∈ (O ++ [m34.h, m34.n]), KInt.ok zq := (fun x hx => (List.mem_append.1 hx).elim (okO x) ((Row.oks KInt h56) x))
   have h67 := Row.own KInt r61 ok66
   refine L (r_as Z rfl) Z rfl ?_; clear Z az; intro az Z
   refine k31 _ _ ?_
   refine wp_region_lit ?_
   have i68 : I64 (((k : Int) + 1)) := by unfold I64; omega
   refine L (r_addI (r := ((k : Int) + 1)) Z rfl rfl rfl i68) Z rfl ?_; clear Z az; intro az Z
   refine L (r_mv Z rfl) Z rfl ?_; clear Z az; intro az Z
   have O69 : Only NoF w w59 := (o_sg O65 o62 (Nat.le_refl _) (ownF_ge rO))
   have ne70 : g2 ≠ g40 := (ne_of (Blk.lt B26) hg44)
   have B71 := (Blk.only (Blk.k (Blk.st (Blk.k B26 o42) s47 ne70) o52) o62 (ow_nb r54 (Blk.k (Blk.st (Blk.k B26 o42) s47 ne70) o52) (by decide)))
   exact ⟨_, (by omega), k + 1, _, A57, c58, rfl, Z.cut ⟨rfl, rfl, rfl, rfl, rfl, trivial⟩, (by omega), (by rw [hO, take_succ_get hm35, flat2, flat2, List.flatMap_append]; rfl), ok66, O69, B71, (ow_low r61 (Nat.le_refl _))⟩
  ·
   have p72 := of_decide_eq_false hc29
   refine wp_exit ?_
   refine th_exit ?_
   refine th_exit ?_
   refine ib_hit ?_
   refine k19 _ _ (wp_seq_k fun _ k73 => ?_)
   refine reg_p NoF 5 [2, 5, 9, 12, 16] (.rd 0 (.rd 1 (.rd 3 (.rd 4 (.rd 7 (.rd 8 (.rd 11 (.rd 14 (.rd 15 (.ex 2 (.ex 5 (.rd 6 (.ex 9 (.rd 10 (.ex 12 (.rd 13 (.ex 16 (.rd 17 (.rd 18 (.rd 19 .nil)))))))))))))))))))) (by kernel_rfl) (by kernel_rfl) (fun _ _ _ _ _ h => h) fun w74 o75 => ?_
   have B76 := (Blk.k B26 o75)
   refine Pl.MSP (b := true) (by kernel_rfl) (fun W oW => r_fa (m' := 0) Tryz.underlying43 rfl Tryz.sizeOf3 rfl Z rfl rfl) Z rfl rfl ?_; clear Z az; intro az Z
   refine Pl.MSP (b := true) (by kernel_rfl) (fun W oW => r_ld Tryz.isAgg3 Z rfl ((Blk.ca (Blk.k B76 oW)) 0 _ rfl)) Z rfl rfl ?_; clear Z az; intro az Z
   refine Pl.MSP (b := true) (by kernel_rfl) (fun W oW => r_fa (m' := 1) Tryz.underlying43 rfl Tryz.sizeOf3 rfl Z rfl rfl) Z rfl rfl ?_; clear Z az; intro az Z
   refine Pl.MSP (b := true) (by kernel_rfl) (fun W oW => r_ld Tryz.isAgg3 Z rfl ((Blk.ca (Blk.k B76 oW)) 1 _ rfl)) Z rfl rfl ?_; clear Z az; intro az Z
   refine Pl.MSP (b := true) (by kernel_rfl) (fun W oW => r_fa (m' := 2) Tryz.underlying43 rfl Tryz.sizeOf3 rfl Z rfl rfl) Z rfl rfl ?_; clear Z az; intro az Z
   refine Pl.MSP (b := true) (by kernel_rfl) (fun W oW => r_ld Tryz.isAgg3 Z rfl ((Blk.ca (Blk.k B76 oW)) 2 _ rfl)) Z rfl rfl ?_; clear Z az; intro az Z
   refine Pl.MSP (b := true) (by kernel_rfl) (fun W oW => r_mv Z rfl) Z rfl rfl ?_; clear Z az; intro az Z
   refine Pl.MSP (b := true) (by kernel_rfl) (fun W oW => r_fa (m' := 4) Tryz.underlying43 rfl Tryz.sizeOf9 rfl Z rfl rfl) Z rfl rfl ?_; clear Z az; intro az Z
   refine Pl.MSP (b := true) (by kernel_rfl) (fun W oW => r_ld Tryz.isAgg9 Z rfl ((Blk.ca (Blk.k B76 oW)) 4 _ rfl)) Z rfl rfl ?_; clear Z az; intro az Z
   have O78 : Only NoF w w74 := (Only.trans' o24 o75)
   have G77 := Gr.k hG O78
   refine Pl.MSV (v := strV (Wr.numE m.h)) Z rfl rfl rfl Tryz.call44 (Num_v G77 m.h (wr_ok hk1.1)) rfl (fun w' o' => ⟨fun _ => o', (Only.trans (Only.refl NoF w74) o' (fun _ h => h.elim))⟩) fun w79 o80 => ?_; clear Z az; intro az Z
   have O82 : Only NoF w w79 := (Only.trans' O78 o80)
   have G81 := Gr.k hG O82
   refine Pl.MSV (v := strV (Wr.numE m.n)) Z rfl rfl rfl Tryz.call44 (Num_v G81 m.n (wr_ok hk1.2.1)) rfl (fun w' o' => ⟨fun _ => (Only.trans' o80 o'), (Only.trans (Only.trans (Only.refl NoF w74) o80 (fun _ h => h.elim)) o' (fun _ h => h.elim))⟩) fun w83 o84 => ?_; clear Z az; intro az Z
   refine Pl.MSP (b := true) (by kernel_rfl) (fun W oW => r_addS Z rfl rfl (by have e1 := numE_len (wr_ok hk1.1); have e2 := numE_len (wr_ok hk1.2.1); have e3 := numE_len (wr_ok hk1.2.2.1); have e4 := numsE_len (l := O) okO (by omega); have e5 := text_size2 (s := m.s) (by omega); (try simp only [List.length_append]); omega)) Z rfl rfl ?_; clear Z az; intro az Z
   have O86 : Only NoF w w83 := (Only.trans' O82 o84)
   have G85 := Gr.k hG O86
   refine Pl.MSV (v := strV (Wr.numE m.d)) Z rfl rfl rfl Tryz.call44 (Num_v G85 m.d (wr_ok hk1.2.2.1)) rfl (fun w' o' => ⟨fun _ => (Only.trans' (Only.trans' o80 o84) o'), (Only.trans (Only.trans (Only.trans (Only.refl NoF w74) o80 (fun _ h => h.elim)) o84 (fun _ h => h.elim)) o' (fun _ h => h.elim))⟩) fun w87 o88 => ?_; clear Z az; intro az Z
   refine Pl.MSP (b := true) (by kernel_rfl) (fun W oW => r_addS Z rfl rfl (by have e1 := numE_len (wr_ok hk1.1); have e2 := numE_len (wr_ok hk1.2.1); have e3 := numE_len (wr_ok hk1.2.2.1); have e4 := numsE_len (l := O) okO (by omega); have e5 := text_size2 (s := m.s) (by omega); (try simp only [List.length_append]); omega)) Z rfl rfl ?_; clear Z az; intro az Z
   have h89 := Row.own KInt rO okO
   have O90 : Only NoF w23 w87 := (Only.trans' (Only.trans' (Only.trans' o75 o80) o84) o88)
   have h91 := (SliceOf.kp h89 O90 (fun _ _ h => h) (fun _ _ _ _ h => h))
   have h92 := SliceOf.pl h91
   have O94 : Only NoF w w87 := (Only.trans' O86 o88)
   have G93 := Gr.k hG O94
   refine Pl.MSV (v := strV (Wr.numsE O)) Z rfl rfl rfl Tryz.call45 (Nums_v G93 h92 (by omega) (ints_bytes (l := O) (Row.oks KInt h92) (by omega))) rfl (fun w' o' => ⟨fun _ => (Only.trans' (Only.trans' (Only.trans' o80 o84) o88) o'), (Only.trans (Only.trans (Only.trans (Only.trans (Only.refl NoF w74) o80 (fun _ h => h.elim)) o84 (fun _ h => h.elim)) o88 (fun _ h => h.elim)) o' (fun _ h => h.elim))⟩) fun w95 o96 => ?_; clear Z az; intro az Z
   refine Pl.MSP (b := true) (by kernel_rfl) (fun W oW => r_addS Z rfl rfl (by have e1 := numE_len (wr_ok hk1.1); have e2 := numE_len (wr_ok hk1.2.1); have e3 := numE_len (wr_ok hk1.2.2.1); have e4 := numsE_len (l := O) okO (by omega); have e5 := text_size2 (s := m.s) (by omega); (try simp only [List.length_append]); omega)) Z rfl rfl ?_; clear Z az; intro az Z
   have O98 : Only NoF w w95 := (Only.trans' O94 o96)
   have G97 := Gr.k hG O98
   refine Pl.MSV (v := strV (Wr.textE m.s)) Z rfl rfl rfl Tryz.call46 (Text_v G97 m.s (by omega)) rfl (fun w' o' => ⟨fun _ => (Only.trans' (Only.trans' (Only.trans' (Only.trans' o80 o84) o88) o96) o'), (Only.trans (Only.trans (Only.trans (Only.trans (Only.trans (Only.refl NoF w74) o80 (fun _ h => h.elim)) o84 (fun _ h => h.elim)) o88 (fun _ h => h.elim)) o96 (fun _ h => h.elim)) o' (fun _ h => h.elim))⟩) fun w99 o100 => ?_; clear Z az; intro az Z
   refine Pl.MSP (b := true) (by kernel_rfl) (fun W oW => r_addS Z rfl rfl (by have e1 := numE_len (wr_ok hk1.1); have e2 := numE_len (wr_ok hk1.2.1); have e3 := numE_len (wr_ok hk1.2.2.1); have e4 := numsE_len (l := O) okO (by omega); have e5 := text_size2 (s := m.s) (by omega); (try simp only [List.length_append]); omega)) Z rfl rfl ?_; clear Z az; intro az Z
   refine Pl.MSP (b := true) (by kernel_rfl) (fun W oW => r_as Z rfl) Z rfl rfl ?_; clear Z az; intro az Z
   refine Pl.MSP (b := true) (by kernel_rfl) (fun W oW => r_as Z rfl) Z rfl rfl ?_; clear Z az; intro az Z
   refine wpPl_nil ?_
   refine k73 _ _ ?_
   refine wp_ret ?_
   show bodyPost _ _ _ .ret _ _
   refine ret_of (vs := [strV (Wr.numE m.h ++ Wr.numE m.n ++ Wr.numE m.d ++ Wr.numsE O ++ Wr.textE m.s), .bool (true)]) Z Tryz.results25 ⟨rfl, rfl, trivial⟩ ?_
   have O101 : Only NoF w w99 := (Only.trans' O98 o100)
   rw [List.take_of_length_le (by omega)] at hO
   rw [hrt, if_pos rfl]; unfold encN; rw [← hO]; exact ⟨rfl, O101⟩
end
section
open Go.RowKit
def CloneTo {α : Type} (K : Row α) (e : TypeId) (l : List α) (w : World) (x : Ending) (w' : World) : Prop :=
 ∃ A c, x = .returned (.slice A l.length c) ∧ w'.ownsRow w.heap.size e K.size (.slice A l.length c) l.length (l.flatMap K.cells) ∧ Only NoF w w'
theorem cloneRefs_v {w : World} {v : Value} {l : List RM} (h : RefsV w v l) (hl : l.length ≤ 100000) : Calls Tryz.prog 52 #[v] w (CloneTo KRef 59 l w) := by
 obtain ⟨A, c, rfl, _, _, hr⟩ := Row.reads KRef h
 refine (cloneRef_c w AllB A l.length c _ hr (flat_one KRef l) (by omega)).mono ?_
 rintro e w' ⟨A', c', rfl, o, ho⟩
 exact ⟨A', c', rfl, ho, o⟩
theorem Check_v {w : World} {v : Value} {l : List NM} (h : NotesV w w v l) : Calls Tryz.prog 96 #[v] w (Fix (.int .i64 (check l)) w) := by
 obtain ⟨A1, c1, rfl, _⟩ := SliceOf.shape h
 exact Check_v_ h
abbrev noteV (m : NM) : Value := .agg #[.int .i64 m.h, .int .i64 m.n, .int .i64 m.d, .slice m.A m.l.length m.c, strV m.s]
end
section
open Go.RowKit
theorem r_slD {P : Program} {w : World} {n : Nat} {l : List (Nat × Value)} {a : Act} {dst : Option Tmp} {ty : TypeId} {pos : String} {aft : Array Edge} {g : Option (Nat × Bool)} {x : Operand} {t e : TypeId} {size len cap lo m : Nat} {A : Option Addr} {xl : Operand} {zl : Int} (hu : P.underlying t = some (.slice e)) (hs : ∀ w, (sizeOf e).run P w = .ok size w) (H : Fr n l a) (hx : ev l x = some (.slice A len cap)) (hl : ev l xl = some (.int .i64 zl))
 (hz : zl = (lo : Int)) (hle : lo ≤ len) (hm : len - lo = m) :
 (execOp a.eval ⟨dst, .slice t x (some xl) none none, ty, pos, aft, g⟩).run P w = .ok (.value (.slice (slA A cap lo size) m (cap - lo))) w := by
 subst hm
 exact r_sll hu hs H hx hl hz hle
def pairs : List Int → List RM × List Int
 | a :: b :: l => (⟨a, b⟩ :: (pairs l).1, (pairs l).2)
 | l => ([], l)
theorem pairs_flat : ∀ (O : List RM) (R : List Int), R.length ≤ 1 → pairs (flat2 O ++ R) = (O, R)
 | [], [], _ => rfl
 | [], [a], _ => rfl
 | [], a :: b :: R, h => by simp at h
 | r :: O, R, h => by
  show pairs (r.h :: r.n :: (flat2 O ++ R)) = _
  unfold pairs
  rw [pairs_flat O R h]
abbrev d1 (t : Str) := Wr.num (⟨t, false⟩ : Wr.Rd)
abbrev d2 (t : Str) := Wr.num (d1 t).2
abbrev d3 (t : Str) := Wr.num (d2 t).2
abbrev d4 (t : Str) := Wr.nums (d3 t).2
abbrev d5 (t : Str) := Wr.text (d4 t).2
def decN (t : Str) : NM := ⟨(d1 t).1, (d2 t).1, (d3 t).1, none, (pairs (d4 t).1).1, 0, (d5 t).1⟩
def decOk (t : Str) : Bool := !(((!Wr.done (d5 t).2) || decide ((0 : Int) < (((pairs (d4 t).1).2.length : Nat) : Int))) || (!right (decN t)))
end
section
open Go.RowKit
theorem right_ok {m : NM} (h : right m = true) : (Wr.Ok m.h ∧ 0 ≤ m.h) ∧ (Wr.Ok m.n ∧ 0 ≤ m.n) ∧ (Wr.Ok m.d ∧ 0 ≤ m.d) := by
 unfold right headBad kn bel at h
 simp only [Bool.and_eq_true, Bool.not_eq_true', Bool.or_eq_false_iff, Bool.not_eq_false', decide_eq_true_eq] at h
 unfold Wr.Ok
 omega
theorem dec_enc {m : NM} (hr : right m = true) (hl : ∀ r ∈ m.l, Wr.Ok r.h ∧ Wr.Ok r.n) : decOk (encN m) = true ∧ decN (encN m) = ⟨m.h, m.n, m.d, none, m.l, 0, m.s⟩ := by
 obtain ⟨⟨a1, a2⟩, ⟨b1, b2⟩, ⟨c1, c2⟩⟩ := right_ok hr
 obtain ⟨l1, l2⟩ := right_len hr
 have e : encN m = Wr.numE m.h ++ (Wr.numE m.n ++ (Wr.numE m.d ++ (Wr.numsE (flat2 m.l) ++ (Wr.textE m.s ++ [])))) := by simp [encN, List.append_assoc]
 have h1 : d1 (encN m) = (m.h, ⟨Wr.numE m.n ++ (Wr.numE m.d ++ (Wr.numsE (flat2 m.l) ++ (Wr.textE m.s ++ []))), false⟩) := by
  show Wr.num ⟨encN m, false⟩ = _
  rw [e]; exact Wr.num_ok a1 a2 _ _
 have h2 : d2 (encN m) = (m.n, ⟨Wr.numE m.d ++ (Wr.numsE (flat2 m.l) ++ (Wr.textE m.s ++ [])), false⟩) := by
  show Wr.num (d1 (encN m)).2 = _
  rw [h1]; exact Wr.num_ok b1 b2 _ _
 have h3 : d3 (encN m) = (m.d, ⟨Wr.numsE (flat2 m.l) ++ (Wr.textE m.s ++ []), false⟩) := by
  show Wr.num (d2 (encN m)).2 = _
  rw [h2]; exact Wr.num_ok c1 c2 _ _
 have h4 : d4 (encN m) = (flat2 m.l, ⟨Wr.textE m.s ++ [], false⟩) := by
  show Wr.nums (d3 (encN m)).2 = _
  rw [h3]
  refine Wr.list_ok' (one := Wr.int) (oneE := Wr.intE) (by rw [flat2_len]; omega) (fun x hx r => Wr.int_ok ?_ r false) _
  unfold flat2 at hx
  obtain ⟨r, hr, hx⟩ := List.mem_flatMap.1 hx
  simp at hx
  rcases hx with rfl | rfl
  · exact (hl r hr).1
  · exact (hl r hr).2
 have h5 : d5 (encN m) = (m.s, ⟨[], false⟩) := by
  show Wr.text (d4 (encN m)).2 = _
  rw [h4]; exact Wr.text_ok (by omega) _
 have hp : pairs (flat2 m.l) = (m.l, []) := by
  have := pairs_flat m.l [] (by simp)
  rwa [List.append_nil] at this
 have hN : decN (encN m) = ⟨m.h, m.n, m.d, none, m.l, 0, m.s⟩ := by
  unfold decN
  rw [h1, h2, h3, h4, h5, hp]
 refine ⟨?_, hN⟩
 unfold decOk
 rw [hN, h5, h4, hp, show right ⟨m.h, m.n, m.d, none, m.l, 0, m.s⟩ = right m from rfl, hr]
 rfl
/-! ### the note of 'small' -/
end
section
open Go.RowKit
end
end Go.Proofs.YtdcbjedkddgfkaaGreatDoor
