/-
  Gossip: the law's other functions, walked. Condition: the listed variables; at most 1,000,000 notes.
-/
import Derived.Test.YtdcbjedkddgfkaaDoorGo14
namespace Go.Proofs.YtdcbjedkddgfkaaDoor
set_option maxHeartbeats 4000000
set_option maxRecDepth 20000
set_option linter.unusedVariables false
set_option linter.unusedSimpArgs false
set_option linter.unusedSectionVars false
open Go.RowKit
def KBool : Row Bool := ⟨1, fun m => [.bool m], fun _ => True, fun _ => rfl, by decide, fun x u hu => by
 simp at hu
 subst hu; rfl⟩
def KU8 : Row UInt8 := ⟨1, fun m => [.int .u8 ((m.toNat : Nat) : Int)], fun _ => True, fun _ => rfl, by decide, fun x u hu => by
 simp at hu
 subst hu; rfl⟩
/-! ### first -/
def FirstTo (l : List NM) (h : Int) (w : World) (e : Ending) (w' : World) : Prop := ∃ v, e = .returned (.int .i64 v) ∧ FirstIs l h v ∧ Only NoF w w'
/-! ### gap -/
def tabB (f : Nat → Bool) : List Bool := (List.range 400).map f
theorem tbb_get {f : Nat → Bool} {q : Nat} (h : q < 400) : (tabB f)[q]? = some (f q) := by
 unfold tabB
 rw [List.getElem?_map, List.getElem?_range h]; rfl
theorem tbb_at {f : Nat → Bool} {q : Nat} {m : Bool} (h : q < 400) (e : (tabB f)[q]? = some m) : m = f q := by
 rw [tbb_get h] at e; injection e with e; exact e.symm
theorem tbb_at2 {f : Nat → Bool} {B : List Bool} {q : Nat} {m : Bool} (hB : B = tabB f) (h : q < 400) (e : B[q]? = some m) : m = f q := by subst hB; exact tbb_at h e
theorem tbb_set {f g : Nat → Bool} {q : Nat} {v : Bool} (h1 : g q = v) (h2 : ∀ p, p ≠ q → g p = f p) : (tabB f).set q v = tabB g := by
 apply List.ext_getElem?
 intro i
 have hl : (tabB f).length = 400 := by unfold tabB; simp
 have hl2 : (tabB g).length = 400 := by unfold tabB; simp
 rcases Nat.lt_or_ge i 400 with hi | hi
 · rw [List.getElem?_set]
   split
   · rename_i e; subst e; rw [if_pos (by omega), tbb_get hi, h1]
   · rename_i e; rw [tbb_get hi, tbb_get hi, h2 i (fun e2 => e e2.symm)]
 · rw [List.getElem?_eq_none (by rw [List.length_set]; omega), List.getElem?_eq_none (by omega)]
theorem tbb_zero (h : Int) : List.replicate 400 false = tabB (gthere [] h) := by
 show _ = (List.range 400).map fun _ => false
 rw [List.map_const', List.length_range]
section
variable {l : List NM} {k q : Nat} {m : NM} {h z : Int} {B : List Bool} {i : Nat} {r : RM}
theorem gt_snoc (hm : l[k]? = some m) (q : Nat) : gthere (l.take (k + 1)) h q = (gthere (l.take k) h q || (right m && decide (m.h = h) && decide (m.n = (q : Int)))) := by
 unfold gthere
 rw [take_succ_get hm, List.any_append]
 simp
theorem gt_bad (hm : l[k]? = some m) (hr : right m = false) (hB : B = tabB (gthere (l.take k) h)) : B = tabB (gthere (l.take (k + 1)) h) := by
 rw [hB]
 refine congrArg tabB (funext fun q => ?_)
 rw [gt_snoc hm, hr]; simp
theorem gt_other (hm : l[k]? = some m) (e : decide (m.h = h) = false) (hB : B = tabB (gthere (l.take k) h)) : B = tabB (gthere (l.take (k + 1)) h) := by
 rw [hB]
 refine congrArg tabB (funext fun q => ?_)
 rw [gt_snoc hm, e]; simp
theorem gt_own (hm : l[k]? = some m) (hr : right m = true) (e : decide (m.h = h) = true) (hq : m.n = (q : Int)) (hB : B = tabB (gthere (l.take k) h)) : B.set q true = tabB (gthere (l.take (k + 1)) h) := by
 subst hB
 refine tbb_set ?_ fun p hp => ?_
 · rw [gt_snoc hm, hr, e, decide_eq_true hq]; simp
 · rw [gt_snoc hm, hr, e, decide_eq_false (by omega)]; simp
theorem gn_step (hm : l[k]? = some m) : gneed (l.take (k + 1)) h = gS h (gneed (l.take k) h) m := by
 unfold gneed
 rw [take_succ_get hm, List.foldl_append]; rfl
theorem gn_bad (hm : l[k]? = some m) (hr : right m = false) (hz : z = gneed (l.take k) h) : z = gneed (l.take (k + 1)) h := by
 rw [gn_step hm]; unfold gS; rw [hr]; exact hz
theorem gn_end (hm : l[k]? = some m) (hr : right m = true) (hi : i = m.l.length) (hz : z = (m.l.take i).foldl (gR h) (gH h (gneed (l.take k) h) m)) : z = gneed (l.take (k + 1)) h := by
 subst hi
 rw [List.take_length] at hz
 rw [gn_step hm]; unfold gS; rw [if_pos hr]; exact hz
theorem gh_yes (e : decide (m.h = h) = true) (hz : z = gneed (l.take k) h) : max z (m.n - 1) = (m.l.take 0).foldl (gR h) (gH h (gneed (l.take k) h) m) := by
 show _ = gH h _ m
 unfold gH; rw [if_pos (of_decide_eq_true e), hz]
theorem gh_no (e : decide (m.h = h) = false) (hz : z = gneed (l.take k) h) : z = (m.l.take 0).foldl (gR h) (gH h (gneed (l.take k) h) m) := by
 show _ = gH h _ m
 unfold gH; rw [if_neg (of_decide_eq_false e), hz]
theorem gr_yes {a : Int} (hr : m.l[i]? = some r) (e : decide (r.h = h) = true) (hz : z = (m.l.take i).foldl (gR h) a) : max z r.n = (m.l.take (i + 1)).foldl (gR h) a := by
 rw [take_succ_get hr, List.foldl_append, ← hz]
 show _ = gR h z r
 unfold gR; rw [if_pos (of_decide_eq_true e)]
theorem gr_no {a : Int} (hr : m.l[i]? = some r) (e : decide (r.h = h) = false) (hz : z = (m.l.take i).foldl (gR h) a) : z = (m.l.take (i + 1)).foldl (gR h) a := by
 rw [take_succ_get hr, List.foldl_append, ← hz]
 show _ = gR h z r
 unfold gR; rw [if_neg (of_decide_eq_false e)]
theorem gap_hit {p : Nat} (hz : z = gneed l h) (hp : (p : Int) ≤ z) (h0 : ∀ q, q < p → gthere l h q = true) (h1 : gthere l h p = false) : gapN l h = (p : Int) := by
 unfold gapN
 rw [← hz]
 have : (List.range (z + 1).toNat).find? (fun q => !gthere l h q) = some p := by
  rw [List.find?_eq_some_iff_getElem]
  refine ⟨by rw [h1]; rfl, p, by rw [List.length_range]; omega, List.getElem_range _, fun j hj => ?_⟩
  rw [List.getElem_range, h0 j hj]; rfl
 rw [this]
theorem gap_none {p : Nat} (hz : z = gneed l h) (hp : z < (p : Int)) (h0 : ∀ q, q < p → gthere l h q = true) : gapN l h = -1 := by
 unfold gapN
 rw [← hz]
 have : (List.range (z + 1).toNat).find? (fun q => !gthere l h q) = none := by
  rw [List.find?_eq_none]
  intro q hq
  have := List.mem_range.1 hq
  rw [h0 q (by omega)]; decide
 rw [this]
theorem gt_up {p : Nat} (h0 : ∀ q, q < p → gthere l h q = true) (h1 : gthere l h p = true) : ∀ q, q < p + 1 → gthere l h q = true := fun q hq => by
 rcases Nat.lt_or_ge q p with e | e
 · exact h0 q e
 · have : q = p := by omega
   subst this; exact h1
end
/-! ### shuffled -/
def ShufTo (l : List NM) (y : Nat) (w : World) (e : Ending) (w' : World) : Prop := ∃ A c, ∃ O : List NM, e = .returned (.slice A O.length c) ∧ (∀ x, x ∈ O ↔ x ∈ l) ∧ O.length ≤ l.length + y ∧ w'.ownsRow w.heap.size 42 5 (.slice A O.length c) O.length (O.flatMap KN0.cells) ∧ Only NoF w w'
theorem swap_mem {α : Type} {l : List α} {p q : Nat} {a b : α} (ha : l[p]? = some a) (hb : l[q]? = some b) (x : α) : x ∈ (l.set p b).set q a ↔ x ∈ l := by
 obtain ⟨hp, ea⟩ := List.getElem?_eq_some_iff.1 ha
 obtain ⟨hq, eb⟩ := List.getElem?_eq_some_iff.1 hb
 have key : ∀ i, ((l.set p b).set q a)[i]? = if i = q then some a else if i = p then some b else l[i]? := by
  intro i
  rw [List.getElem?_set, List.length_set, List.getElem?_set]
  by_cases e1 : i = q
  · subst e1; rw [if_pos rfl, if_pos hq, if_pos rfl]
  · rw [if_neg (fun h => e1 h.symm), if_neg e1]
    by_cases e2 : i = p
    · subst e2; rw [if_pos rfl, if_pos hp, if_pos rfl]
    · rw [if_neg (fun h => e2 h.symm), if_neg e2]
 constructor
 · intro hx
   obtain ⟨i, hi⟩ := List.getElem?_of_mem hx
   rw [key] at hi
   split at hi
   · injection hi with hi; subst hi; exact List.mem_of_getElem? ha
   · split at hi
     · injection hi with hi; subst hi; exact List.mem_of_getElem? hb
     · exact List.mem_of_getElem? hi
 · intro hx
   obtain ⟨i, hi⟩ := List.getElem?_of_mem hx
   by_cases e1 : i = q
   · subst e1
     rw [hb] at hi; injection hi with hi; subst hi
     by_cases e2 : p = i
     · subst e2
       refine List.mem_of_getElem? (i := p) ?_
       rw [key, if_pos rfl]; rw [ha] at hb; exact hb ▸ rfl
     · refine List.mem_of_getElem? (i := p) ?_
       rw [key, if_neg e2, if_pos rfl]
   · by_cases e2 : i = p
     · subst e2
       rw [ha] at hi; injection hi with hi; subst hi
       refine List.mem_of_getElem? (i := q) ?_
       rw [key, if_pos rfl]
     · refine List.mem_of_getElem? (i := i) ?_
       rw [key, if_neg e1, if_neg e2]; exact hi
theorem app_mem {α : Type} {l l2 : List α} {a : α} (h : ∀ x, x ∈ l2 ↔ x ∈ l) (ha : a ∈ l) (x : α) : x ∈ l2 ++ [a] ↔ x ∈ l := by
 rw [List.mem_append, List.mem_singleton, h]
 constructor
 · rintro (e | e)
   · exact e
   · subst e; exact ha
 · exact .inl
theorem rem_at {b : UInt8} {n : Nat} (hn : 0 < n) : ∃ p : Nat, Int.tmod ((b.toNat : Nat) : Int) ((n : Nat) : Int) = (p : Int) ∧ p < n := by
 refine ⟨b.toNat % n, ?_, Nat.mod_lt _ hn⟩
 rw [Int.tmod_eq_emod_of_nonneg (by omega)]; rfl
/-! ### wants -/
def wantsN (N : List RM) : List RM := N.map fun r => ⟨r.h, r.n - 1⟩
theorem wa_step {N : List RM} {k : Nat} {r : RM} (hr : N[k]? = some r) : wantsN (N.take (k + 1)) = wantsN (N.take k) ++ [⟨r.h, r.n - 1⟩] := by
 unfold wantsN
 rw [take_succ_get hr, List.map_append]; rfl
theorem wa_len {N : List RM} : (wantsN N).length = N.length := by unfold wantsN; rw [List.length_map]
theorem heads_bnd {l : List NM} (hl : l.length ≤ 1000000) : (headsN (joinN l)).length ≤ 1000000 := by
 have h1 := hd_len (runN (joinN l)).1
 rw [headN_eq]
 have h2 := congrArg List.length (run_houses (joinN l)).1
 rw [List.length_map, List.length_map] at h2
 have h3 := hou_len (joinN l)
 have h4 := joinN_le l
 omega
theorem heads_pos {l : List NM} (hl : l.length ≤ 1000000) : ∀ r ∈ headsN (joinN l), 1 ≤ r.n ∧ r.n ≤ 1000000 := fun r hr => by
 have h1 := (heads_mem (join_up l) r).1 hr
 have h2 := taken_le (join_up l) r.h
 have h3 := past_400 (ofN (joinN l) r.h)
 omega
theorem wa_ok {N : List RM} (h1 : ∀ r ∈ N, KRef.ok r) (h2 : ∀ r ∈ N, 1 ≤ r.n ∧ r.n ≤ 1000000) : ∀ r ∈ wantsN N, KRef.ok r := fun r hr => by
 unfold wantsN at hr
 obtain ⟨x, hx, rfl⟩ := List.mem_map.1 hr
 have h3 := h2 x hx
 exact ⟨(h1 x hx).1, by show I64 (x.n - 1); unfold I64; omega⟩
theorem gneed_399 (l : List NM) (h : Int) : gneed l h ≤ 399 := by
 rcases (gneed_le l (x := gneed l h) (h := h)).1 (Int.le_refl _) with e | ⟨m, _, hr, e | ⟨r, h1, h2, h3⟩⟩
 · omega
 · have := right_bnd hr; omega
 · obtain ⟨i, hi⟩ := List.getElem?_of_mem h1
   have := ref_bnd hr hi; omega
theorem app_Fg {v v' : Value} {m k : Nat} (al : v'.ownBlock = v.ownBlock ∨ v'.ownBlock = some m) (h : ownF v' k) : ownF v k ∨ k = m := by
 unfold ownF at h ⊢
 rcases al with al | al
 · rw [al] at h; exact .inl h
 · rw [al] at h; injection h with h; exact .inr h.symm
theorem placed_v_ {w : World} {b : List NM} {A1 A2 A3 : Option Addr} {c1 c2 c3 : Nat} (f1 : SliceOf AllB 5 KN0.R w (.slice A1 b.length c1) b) (hl : b.length ≤ 1000000) {m : NM} (hx : okN AllB w m) {N : List RM} (f2 : RefsV w (.slice A2 N.length c2) N) {F : List Int} (f3 : IntsV w (.slice A3 F.length c3) F) : Calls Tryd.prog 24 [.slice A1 b.length c1, .agg #[.int .i64 m.h, .int .i64 m.n, .int .i64 m.d, .slice m.A m.l.length m.c, strV m.s], .slice A2 N.length c2, .slice A3 F.length c3].toArray w (Fix (.bool (placedN b m N F)) w) := by
 have hml := SliceOf.len hx.2.2.2.1
 unfold maxLen at hml
 refine calls_start Tryd.func24 rfl rfl ?_
 intro az Z
 rw [Tryd.ntmps24] at Z
 refine wp_seq_k fun _ k1 => wp_region_lit ?_
 refine LBox Z rfl rfl rfl ?_
 clear Z az; intro g2 w3 hg6 hl7 o4 B5 az Z
 refine L (r_as Z rfl) Z rfl ?_; clear Z az; intro az Z
 refine k1 _ _ (wp_seq_k fun _ k8 => ?_)
 refine wp_seq_k fun _ k9 => ?_
 refine reg_p NoF 1 [3] (.rd 0 (.rd 1 (.rd 2 (.rd 5 (.rd 6 (.ex 3 (.rd 4 (.rd 7 .nil)))))))) (by kernel_rfl) (by kernel_rfl) (fun _ _ _ _ _ h => h) fun w10 o11 => ?_
 have B12 := (Blk.k B5 o11)
 refine Pl.MSP (b := true) (by kernel_rfl) (fun W oW => r_mv Z rfl) Z rfl rfl ?_; clear Z az; intro az Z
 refine Pl.MSP (b := true) (by kernel_rfl) (fun W oW => r_fa (m' := 0) Tryd.underlying42 rfl Tryd.sizeOf3 rfl Z rfl rfl) Z rfl rfl ?_; clear Z az; intro az Z
 refine Pl.MSP (b := true) (by kernel_rfl) (fun W oW => r_ld Tryd.isAgg3 Z rfl ((Blk.ca (Blk.k B12 oW)) 0 _ rfl)) Z rfl rfl ?_; clear Z az; intro az Z
 refine Pl.MSP (b := true) (by kernel_rfl) (fun W oW => r_fa (m' := 1) Tryd.underlying42 rfl Tryd.sizeOf3 rfl Z rfl rfl) Z rfl rfl ?_; clear Z az; intro az Z
 refine Pl.MSP (b := true) (by kernel_rfl) (fun W oW => r_ld Tryd.isAgg3 Z rfl ((Blk.ca (Blk.k B12 oW)) 1 _ rfl)) Z rfl rfl ?_; clear Z az; intro az Z
 have O17 : Only NoF w w10 := (Only.trans' o4 o11)
 have h18 := (SliceOf.kp f1 O17 (fun _ _ h => h) (fun _ _ _ _ h => h))
 refine Pl.MSC Z rfl rfl rfl Tryd.call21 (of39_v_ h18 hl m.h) rfl ?_
 rintro e w19 ⟨A13, c14, rfl, r15, o16⟩; refine ⟨_, rfl, ⟨fun _ => o16, (Only.trans (Only.refl NoF w10) o16 (fun _ h => h.elim))⟩, ?_⟩
 clear Z az; intro az Z
 refine Pl.MSP (b := true) (by kernel_rfl) (fun W oW => r_lenL Tryd.underlying22 Z rfl) Z rfl rfl ?_; clear Z az; intro az Z
 refine Pl.MSP (b := true) (by kernel_rfl) (fun W oW => r_neI Z rfl rfl) Z rfl rfl ?_; clear Z az; intro az Z
 refine wpPl_nil ?_
 refine k9 _ _ ?_
 refine br Z rfl (fun hc20 => ?_) (fun hc20 => ?_)
 ·
  have p21 := of_decide_eq_false (nt_t hc20)
  refine wp_seq_k fun _ k22 => wp_region_lit ?_
  refine L (r_as Z rfl) Z rfl ?_; clear Z az; intro az Z
  refine k22 _ _ ?_
  refine wp_ret ?_
  show bodyPost _ _ _ .ret _ _
  refine ret_of (vs := [.bool (false)]) Z Tryd.results24 ⟨rfl, trivial⟩ ?_
  have O23 : Only NoF w w19 := (Only.trans' O17 o16)
  rw [pl_head hc20]; exact ⟨rfl, O23⟩
 ·
  have p24 := of_decide_eq_true (nt_f hc20)
  refine wp_skip ?_
  refine k8 _ _ (wp_seq_k fun _ k25 => ?_)
  refine wp_seq_k fun _ k26 => wp_region_lit ?_
  refine L (r_as Z rfl) Z rfl ?_; clear Z az; intro az Z
  refine k26 _ _ ?_
  refine wp_block ?_
  refine wp_loop_m (fun mz az W => ∃ k : Nat, mz = m.l.length - k ∧ Fr 61 [(0, .slice A1 (b.length) c1), (2, .slice A2 (N.length) c2), (3, .slice A3 (F.length) c3), (5, .pointer (some ((⟨g2, 0, none⟩ : Addr)))), (9, .int .i64 ((k : Int)))] az ∧ (k ≤ m.l.length) ∧ (∀ r ∈ m.l.take k, plR b N F r = true) ∧ Only NoF w19 W) ?_ ?_
  ·
   exact ⟨_, 0, rfl, Z.cut ⟨rfl, rfl, rfl, rfl, rfl, trivial⟩, Nat.zero_le _, (fun r h => by cases h), (Only.refl NoF w19)⟩
  clear Z az
  rintro mz az w27 ⟨k, hm29, Z, hk, h0, o28⟩
  refine wp_seq_k fun _ k30 => ?_
  refine wp_seq_k fun _ k31 => wp_region_lit ?_
  refine L (r_mv Z rfl) Z rfl ?_; clear Z az; intro az Z
  refine L (r_fa (m' := 3) Tryd.underlying42 rfl Tryd.sizeOf36 rfl Z rfl rfl) Z rfl ?_; clear Z az; intro az Z
  have B32 := (Blk.k (Blk.k B12 o16) o28)
  refine L (r_ld Tryd.isAgg36 Z rfl ((Blk.ca B32) 3 _ rfl)) Z rfl ?_; clear Z az; intro az Z
  refine L (r_lenL Tryd.underlying36 Z rfl) Z rfl ?_; clear Z az; intro az Z
  refine L (r_ltI Z rfl rfl) Z rfl ?_; clear Z az; intro az Z
  refine k31 _ _ ?_
  refine br Z rfl (fun hc33 => ?_) (fun hc33 => ?_)
  ·
   have p34 := of_decide_eq_true hc33
   refine wp_skip ?_
   refine k30 _ _ (wp_seq_k fun _ k35 => ?_)
   refine wp_block ?_
   refine wp_seq_k fun _ k36 => wp_region_lit ?_
   refine L (r_fa (m' := 3) Tryd.underlying42 rfl Tryd.sizeOf36 rfl Z rfl rfl) Z rfl ?_; clear Z az; intro az Z
   refine L (r_ld Tryd.isAgg36 Z rfl ((Blk.ca B32) 3 _ rfl)) Z rfl ?_; clear Z az; intro az Z
   refine L (r_mv Z rfl) Z rfl ?_; clear Z az; intro az Z
   have hk37 : k < (m.l).length := by omega
   have O43 : Only NoF w w27 := (Only.trans' (Only.trans' O17 o16) o28)
   have h44 := (SliceOf.kp hx.2.2.2.1 O43 (fun _ _ h => h) (fun _ _ _ _ h => h))
   obtain ⟨m38, hm39, ok40, hA41⟩ := Row.el KRef h44 hk37
   have E42 : ∀ W, Only NoF w27 W → CA W (eA m.A 2 (k)) [.int .i64 (m38.h), .int .i64 (m38.n)] := Row.ce KRef h44 hm39 rfl
   refine L (r_ia (k := k) (size := 2) Tryd.underlying36 Tryd.sizeOf40 Z rfl rfl rfl hk37 hA41) Z rfl ?_; clear Z az; intro az Z
   refine L (r_fa (m' := 0) Tryd.underlying40 rfl Tryd.sizeOf3 rfl Z rfl rfl) Z rfl ?_; clear Z az; intro az Z
   refine L (r_ld Tryd.isAgg3 Z rfl ((E42 _ (Only.refl NoF w27)) 0 _ rfl)) Z rfl ?_; clear Z az; intro az Z
   refine L (r_as Z rfl) Z rfl ?_; clear Z az; intro az Z
   refine k36 _ _ (wp_seq_k fun _ k45 => ?_)
   refine reg_p NoF 3 [8, 14, 25] (.rd 0 (.rd 1 (.rd 2 (.rd 3 (.rd 4 (.rd 5 (.rd 6 (.rd 7 (.ex 8 (.rd 9 (.rd 10 (.rd 11 (.rd 12 (.rd 13 (.ex 14 (.rd 15 (.rd 16 (.rd 17 (.rd 18 (.rd 19 (.rd 20 (.rd 21 (.rd 22 (.rd 23 (.rd 24 (.ex 25 (.rd 26 (.rd 27 (.rd 28 .nil))))))))))))))))))))))))))))) (by kernel_rfl) (by kernel_rfl) (fun _ _ _ _ _ h => h) fun w46 o47 => ?_
   have B48 := (Blk.k B32 o47)
   refine Pl.MSP (b := true) (by kernel_rfl) (fun W oW => r_fa (m' := 3) Tryd.underlying42 rfl Tryd.sizeOf36 rfl Z rfl rfl) Z rfl rfl ?_; clear Z az; intro az Z
   refine Pl.MSP (b := true) (by kernel_rfl) (fun W oW => r_ld Tryd.isAgg36 Z rfl ((Blk.ca (Blk.k B48 oW)) 3 _ rfl)) Z rfl rfl ?_; clear Z az; intro az Z
   refine Pl.MSP (b := true) (by kernel_rfl) (fun W oW => r_mv Z rfl) Z rfl rfl ?_; clear Z az; intro az Z
   refine Pl.MSP (b := true) (by kernel_rfl) (fun W oW => r_ia (k := k) (size := 2) Tryd.underlying36 Tryd.sizeOf40 Z rfl rfl rfl hk37 hA41) Z rfl rfl ?_; clear Z az; intro az Z
   refine Pl.MSP (b := true) (by kernel_rfl) (fun W oW => r_fa (m' := 1) Tryd.underlying40 rfl Tryd.sizeOf3 rfl Z rfl rfl) Z rfl rfl ?_; clear Z az; intro az Z
   refine Pl.MSP (b := true) (by kernel_rfl) (fun W oW => r_ld Tryd.isAgg3 Z rfl ((E42 _ (Only.trans' o47 oW)) 1 _ rfl)) Z rfl rfl ?_; clear Z az; intro az Z
   refine Pl.MSP (b := true) (by kernel_rfl) (fun W oW => r_mv Z rfl) Z rfl rfl ?_; clear Z az; intro az Z
   refine Pl.MSP (b := true) (by kernel_rfl) (fun W oW => r_mv Z rfl) Z rfl rfl ?_; clear Z az; intro az Z
   have O53 : Only NoF w w46 := (Only.trans' O43 o47)
   have h54 := (SliceOf.kp f1 O53 (fun _ _ h => h) (fun _ _ _ _ h => h))
   refine Pl.MSC Z rfl rfl rfl Tryd.call21 (of39_v_ h54 hl m38.h) rfl ?_
   rintro e w55 ⟨A49, c50, rfl, r51, o52⟩; refine ⟨_, rfl, ⟨fun _ => o52, (Only.trans (Only.refl NoF w46) o52 (fun _ h => h.elim))⟩, ?_⟩
   clear Z az; intro az Z
   refine Pl.MSP (b := true) (by kernel_rfl) (fun W oW => r_lenL Tryd.underlying22 Z rfl) Z rfl rfl ?_; clear Z az; intro az Z
   refine Pl.MSP (b := true) (by kernel_rfl) (fun W oW => r_geI Z rfl rfl) Z rfl rfl ?_; clear Z az; intro az Z
   refine Pl.MSP (b := true) (by kernel_rfl) (fun W oW => r_mv Z rfl) Z rfl rfl ?_; clear Z az; intro az Z
   refine Pl.MSPG (b := true) (by kernel_rfl) Z rfl rfl gd_t (fun hb W oW => r_mv Z rfl) rfl rfl ?_; clear Z az; intro az Z
   refine Pl.MSPG (b := true) (by kernel_rfl) Z rfl rfl gd_t (fun hb W oW => r_mv Z rfl) rfl rfl ?_; clear Z az; intro az Z
   have O56 : Only NoF w w55 := (Only.trans' O53 o52)
   have h57 := (SliceOf.kp f3 O56 (fun _ _ h => h) (fun _ _ _ _ h => h))
   refine Pl.MSGV (v := .bool (hasI F m38.h)) Z rfl rfl gd_t rfl rfl (fun hb => (evs_c (evg hb rfl) (evs_c (evg hb rfl) rfl))) Tryd.call27 (fun hb => hasI_v_ h57 m38.h) rfl (fun w' o' => ⟨fun _ => (Only.trans' o52 o'), (Only.trans (Only.trans (Only.refl NoF w46) o52 (fun _ h => h.elim)) o' (fun _ h => h.elim))⟩) fun w58 o59 => ?_; clear Z az; intro az Z
   refine Pl.MSPG (b := true) (by kernel_rfl) Z rfl rfl gd_t (fun hb W oW => r_not Z (evg hb rfl)) rfl rfl ?_; clear Z az; intro az Z
   refine Pl.MSPG (b := true) (by kernel_rfl) Z rfl rfl gd_t (fun hb W oW => r_mv Z (evg hb rfl)) rfl rfl ?_; clear Z az; intro az Z
   refine Pl.MSPG (b := true) (by kernel_rfl) Z rfl rfl gd_gf (fun hb W oW => r_fa (m' := 3) Tryd.underlying42 rfl Tryd.sizeOf36 rfl Z rfl rfl) rfl rfl ?_; clear Z az; intro az Z
   refine Pl.MSPG (b := true) (by kernel_rfl) Z rfl rfl gd_gf (fun hb W oW => r_ld Tryd.isAgg36 Z (evg hb rfl) ((Blk.ca (Blk.k B48 oW)) 3 _ rfl)) rfl rfl ?_; clear Z az; intro az Z
   refine Pl.MSPG (b := true) (by kernel_rfl) Z rfl rfl gd_gf (fun hb W oW => r_mv Z rfl) rfl rfl ?_; clear Z az; intro az Z
   refine Pl.MSPG (b := true) (by kernel_rfl) Z rfl rfl gd_gf (fun hb W oW => r_ia (k := k) (size := 2) Tryd.underlying36 Tryd.sizeOf40 Z (evg hb rfl) (evg hb rfl) rfl hk37 hA41) rfl rfl ?_; clear Z az; intro az Z
   refine Pl.MSPG (b := true) (by kernel_rfl) Z rfl rfl gd_gf (fun hb W oW => r_fa (m' := 1) Tryd.underlying40 rfl Tryd.sizeOf3 rfl Z (evg hb rfl) rfl) rfl rfl ?_; clear Z az; intro az Z
   refine Pl.MSPG (b := true) (by kernel_rfl) Z rfl rfl gd_gf (fun hb W oW => r_ld Tryd.isAgg3 Z (evg hb rfl) ((E42 _ (Only.trans' o47 oW)) 1 _ rfl)) rfl rfl ?_; clear Z az; intro az Z
   refine Pl.MSPG (b := true) (by kernel_rfl) Z rfl rfl gd_gf (fun hb W oW => r_mv Z rfl) rfl rfl ?_; clear Z az; intro az Z
   refine Pl.MSPG (b := true) (by kernel_rfl) Z rfl rfl gd_gf (fun hb W oW => r_mv Z rfl) rfl rfl ?_; clear Z az; intro az Z
   have O60 : Only NoF w w58 := (Only.trans' O56 o59)
   have h61 := (SliceOf.kp f2 O60 (fun _ _ h => h) (fun _ _ _ _ h => h))
   refine Pl.MSGV (v := .int .i64 (cntH N m38.h)) Z rfl rfl gd_gf rfl rfl (fun hb => (evs_c (evg hb rfl) (evs_c (evg hb rfl) rfl))) Tryd.call25 (fun hb => cntH_v_ h61 m38.h) rfl (fun w' o' => ⟨fun _ => (Only.trans' (Only.trans' o52 o59) o'), (Only.trans (Only.trans (Only.trans (Only.refl NoF w46) o52 (fun _ h => h.elim)) o59 (fun _ h => h.elim)) o' (fun _ h => h.elim))⟩) fun w62 o63 => ?_; clear Z az; intro az Z
   refine Pl.MSPG (b := true) (by kernel_rfl) Z rfl rfl gd_gf (fun hb W oW => r_ltI Z (evg hb rfl) (evg hb rfl)) rfl rfl ?_; clear Z az; intro az Z
   refine Pl.MSPG (b := true) (by kernel_rfl) Z rfl rfl gd_t (fun hb W oW => r_or Z (evg hb rfl) rfl (evgc hb rfl)) rfl rfl ?_; clear Z az; intro az Z
   refine Pl.MSP (b := true) (by kernel_rfl) (fun W oW => r_and Z rfl rfl rfl) Z rfl rfl ?_; clear Z az; intro az Z
   refine wpPl_nil ?_
   refine k45 _ _ ?_
   refine br Z rfl (fun hc64 => ?_) (fun hc64 => ?_)
   ·
    have p65 := of_decide_eq_true (and_t hc64).1
    have d66 := (and_t hc64).2
    refine wp_seq_k fun _ k67 => wp_region_lit ?_
    refine L (r_as Z rfl) Z rfl ?_; clear Z az; intro az Z
    refine k67 _ _ ?_
    refine wp_ret ?_
    show bodyPost _ _ _ .ret _ _
    refine ret_of (vs := [.bool (false)]) Z Tryd.results24 ⟨rfl, trivial⟩ ?_
    have O68 : Only NoF w w62 := (Only.trans' O60 o63)
    rw [pl_bad hm39 hc64]; exact ⟨rfl, O68⟩
   ·
    have d69 := hc64
    refine wp_skip ?_
    refine k35 _ _ ?_
    refine wp_region_lit ?_
    refine L (r_mv Z rfl) Z rfl ?_; clear Z az; intro az Z
    have i70 : I64 (((k : Int) + 1)) := by unfold I64; omega
    refine L (r_addI (r := ((k : Int) + 1)) Z rfl rfl rfl i70) Z rfl ?_; clear Z az; intro az Z
    refine L (r_as Z rfl) Z rfl ?_; clear Z az; intro az Z
    have O71 : Only NoF w19 w62 := (Only.trans' (Only.trans' (Only.trans' (Only.trans' o28 o47) o52) o59) o63)
    exact ⟨_, (by omega), k + 1, rfl, Z.cut ⟨rfl, rfl, rfl, rfl, rfl, trivial⟩, (by omega), (pl_step hm39 h0 hc64), O71⟩
  ·
   have p72 := of_decide_eq_false hc33
   refine wp_exit ?_
   refine th_exit ?_
   refine th_exit ?_
   refine ib_hit ?_
   refine k25 _ _ (wp_seq_k fun _ k73 => wp_region_lit ?_)
   refine L (r_as Z rfl) Z rfl ?_; clear Z az; intro az Z
   refine k73 _ _ ?_
   refine wp_ret ?_
   show bodyPost _ _ _ .ret _ _
   refine ret_of (vs := [.bool (true)]) Z Tryd.results24 ⟨rfl, trivial⟩ ?_
   have O74 : Only NoF w w27 := (Only.trans' (Only.trans' O17 o16) o28)
   rw [List.take_of_length_le (by omega)] at h0; rw [pl_ok hc20 h0]; exact ⟨rfl, O74⟩
theorem first_v_ {w : World} {l : List NM} {A : Option Addr} {c : Nat} (t : NtV w (.slice A l.length c) l) (h : Int) : Calls Tryd.prog 31 [.slice A l.length c, .int .i64 h].toArray w (FirstTo l h w) := by
 have hV := NtV.notes t
 have hbd1 := Nat.le_trans (SliceOf.cap_ hV) (SliceOf.lens hV).2
 unfold maxLen at hbd1
 refine calls_start Tryd.func31 rfl rfl ?_
 intro az Z
 rw [Tryd.ntmps31] at Z
 refine wp_seq_k fun _ k1 => wp_region_lit ?_
 refine L (r_as Z rfl) Z rfl ?_; clear Z az; intro az Z
 refine k1 _ _ (wp_seq_k fun _ k2 => wp_region_lit ?_)
 refine L (r_as Z rfl) Z rfl ?_; clear Z az; intro az Z
 refine k2 _ _ (wp_seq_k fun _ k3 => ?_)
 refine wp_seq_k fun _ k4 => wp_region_lit ?_
 refine L (r_as Z rfl) Z rfl ?_; clear Z az; intro az Z
 refine k4 _ _ ?_
 refine wp_block ?_
 refine wp_loop_m (fun mz az W => ∃ i : Nat, ∃ v : Int, mz = l.length - i ∧ Fr 45 [(0, .slice A (l.length) c), (1, .int .i64 (h)), (6, .int .i64 ((i : Int))), (5, .int .i64 (v))] az ∧ (i ≤ l.length) ∧ (FirstAt l h i 0 v) ∧ Only NoF w W) ?_ ?_
 ·
  exact ⟨_, 0, 400, rfl, Z.cut ⟨rfl, rfl, rfl, rfl, trivial⟩, Nat.zero_le _, (fi_start l h), (Only.refl NoF w)⟩
 clear Z az
 rintro mz az w5 ⟨i, v, hm7, Z, hi, hF, o6⟩
 refine wp_seq_k fun _ k8 => ?_
 refine wp_seq_k fun _ k9 => wp_region_lit ?_
 refine L (r_mv Z rfl) Z rfl ?_; clear Z az; intro az Z
 refine L (r_mv Z rfl) Z rfl ?_; clear Z az; intro az Z
 refine L (r_lenL Tryd.underlying22 Z rfl) Z rfl ?_; clear Z az; intro az Z
 refine L (r_ltI Z rfl rfl) Z rfl ?_; clear Z az; intro az Z
 refine k9 _ _ ?_
 refine br Z rfl (fun hc10 => ?_) (fun hc10 => ?_)
 ·
  have p11 := of_decide_eq_true hc10
  refine wp_skip ?_
  refine k8 _ _ (wp_seq_k fun _ k12 => ?_)
  refine wp_block ?_
  refine wp_seq_k fun _ k13 => wp_region_lit ?_
  refine L (r_as Z rfl) Z rfl ?_; clear Z az; intro az Z
  refine k13 _ _ ?_
  refine wp_block ?_
  refine wp_loop_m (fun mz az W => ∃ k : Nat, ∃ u : Int, mz = i - k ∧ Fr 45 [(0, .slice A (l.length) c), (1, .int .i64 (h)), (6, .int .i64 ((i : Int))), (7, .int .i64 ((k : Int))), (5, .int .i64 (u))] az ∧ (k ≤ i) ∧ (FirstAt l h i k u) ∧ Only NoF w5 W) ?_ ?_
  ·
   exact ⟨_, 0, v, rfl, Z.cut ⟨rfl, rfl, rfl, rfl, rfl, trivial⟩, Nat.zero_le _, hF, (Only.refl NoF w5)⟩
  clear Z az
  rintro mz az w14 ⟨k, u, hm16, Z, hk, hE, o15⟩
  refine wp_seq_k fun _ k17 => ?_
  refine wp_seq_k fun _ k18 => wp_region_lit ?_
  refine L (r_mv Z rfl) Z rfl ?_; clear Z az; intro az Z
  refine L (r_mv Z rfl) Z rfl ?_; clear Z az; intro az Z
  refine L (r_ltI Z rfl rfl) Z rfl ?_; clear Z az; intro az Z
  refine k18 _ _ ?_
  refine br Z rfl (fun hc19 => ?_) (fun hc19 => ?_)
  ·
   have p20 := of_decide_eq_true hc19
   refine wp_skip ?_
   refine k17 _ _ (wp_seq_k fun _ k21 => ?_)
   refine wp_block ?_
   refine wp_seq_k fun _ k22 => ?_
   refine reg_p NoF 1 [16] (.rd 0 (.rd 1 (.rd 2 (.rd 3 (.rd 4 (.rd 5 (.rd 6 (.rd 7 (.rd 8 (.rd 9 (.rd 10 (.rd 11 (.rd 12 (.rd 13 (.rd 14 (.rd 15 (.ex 16 (.rd 17 .nil)))))))))))))))))) (by kernel_rfl) (by kernel_rfl) (fun _ _ _ _ _ h => h) fun w23 o24 => ?_
   refine Pl.MSP (b := true) (by kernel_rfl) (fun W oW => r_mv Z rfl) Z rfl rfl ?_; clear Z az; intro az Z
   refine Pl.MSP (b := true) (by kernel_rfl) (fun W oW => r_mv Z rfl) Z rfl rfl ?_; clear Z az; intro az Z
   have hk25 : i < (l).length := by omega
   have O31 : Only NoF w w23 := (Only.trans' (Only.trans' o6 o15) o24)
   have h32 := (SliceOf.kp hV O31 (fun _ _ h => h) (fun _ _ _ _ h => h))
   obtain ⟨m26, hm27, ok28, hA29⟩ := Row.el (KNote w) h32 hk25
   have E30 : ∀ W, Only NoF w23 W → CA W (eA A 5 (i)) [.int .i64 (m26.h), .int .i64 (m26.n), .int .i64 (m26.d), .slice m26.A (m26.l.length) m26.c, strV (m26.s)] := Row.ce (KNote w) h32 hm27 rfl
   refine Pl.MSP (b := true) (by kernel_rfl) (fun W oW => r_ia (k := i) (size := 5) Tryd.underlying22 Tryd.sizeOf42 Z rfl rfl rfl hk25 hA29) Z rfl rfl ?_; clear Z az; intro az Z
   refine Pl.MSP (b := true) (by kernel_rfl) (fun W oW => r_fa (m' := 0) Tryd.underlying42 rfl Tryd.sizeOf3 rfl Z rfl rfl) Z rfl rfl ?_; clear Z az; intro az Z
   refine Pl.MSP (b := true) (by kernel_rfl) (fun W oW => r_ld Tryd.isAgg3 Z rfl ((E30 _ (Only.trans' (Only.refl NoF w23) oW)) 0 _ rfl)) Z rfl rfl ?_; clear Z az; intro az Z
   refine Pl.MSP (b := true) (by kernel_rfl) (fun W oW => r_mv Z rfl) Z rfl rfl ?_; clear Z az; intro az Z
   refine Pl.MSP (b := true) (by kernel_rfl) (fun W oW => r_eqI Z rfl rfl) Z rfl rfl ?_; clear Z az; intro az Z
   refine Pl.MSP (b := true) (by kernel_rfl) (fun W oW => r_mv Z rfl) Z rfl rfl ?_; clear Z az; intro az Z
   refine Pl.MSPG (b := true) (by kernel_rfl) Z rfl rfl gd_t (fun hb W oW => r_mv Z rfl) rfl rfl ?_; clear Z az; intro az Z
   refine Pl.MSPG (b := true) (by kernel_rfl) Z rfl rfl gd_t (fun hb W oW => r_mv Z rfl) rfl rfl ?_; clear Z az; intro az Z
   refine Pl.MSPG (b := true) (by kernel_rfl) Z rfl rfl gd_t (fun hb W oW => r_ia (k := i) (size := 5) Tryd.underlying22 Tryd.sizeOf42 Z (evg hb rfl) (evg hb rfl) rfl hk25 hA29) rfl rfl ?_; clear Z az; intro az Z
   refine Pl.MSPG (b := true) (by kernel_rfl) Z rfl rfl gd_t (fun hb W oW => r_ldA Tryd.isAgg42 Tryd.sizeOf42 Z (evg hb rfl) (E30 _ (Only.trans' (Only.refl NoF w23) oW)) rfl) rfl rfl ?_; clear Z az; intro az Z
   refine Pl.MSPG (b := true) (by kernel_rfl) Z rfl rfl gd_t (fun hb W oW => r_mv Z rfl) rfl rfl ?_; clear Z az; intro az Z
   refine Pl.MSPG (b := true) (by kernel_rfl) Z rfl rfl gd_t (fun hb W oW => r_mv Z rfl) rfl rfl ?_; clear Z az; intro az Z
   have hk33 : k < (l).length := by omega
   obtain ⟨m34, hm35, ok36, hA37⟩ := Row.el (KNote w) h32 hk33
   have E38 : ∀ W, Only NoF w23 W → CA W (eA A 5 (k)) [.int .i64 (m34.h), .int .i64 (m34.n), .int .i64 (m34.d), .slice m34.A (m34.l.length) m34.c, strV (m34.s)] := Row.ce (KNote w) h32 hm35 rfl
   refine Pl.MSPG (b := true) (by kernel_rfl) Z rfl rfl gd_t (fun hb W oW => r_ia (k := k) (size := 5) Tryd.underlying22 Tryd.sizeOf42 Z (evg hb rfl) (evg hb rfl) rfl hk33 hA37) rfl rfl ?_; clear Z az; intro az Z
   refine Pl.MSPG (b := true) (by kernel_rfl) Z rfl rfl gd_t (fun hb W oW => r_ldA Tryd.isAgg42 Tryd.sizeOf42 Z (evg hb rfl) (E38 _ (Only.trans' (Only.refl NoF w23) oW)) rfl) rfl rfl ?_; clear Z az; intro az Z
   have h39 := (SliceOf.kp ok28.2.2.2.1 O31 (fun _ _ h => h) (fun _ _ _ _ h => h))
   have h40 := (SliceOf.kp ok36.2.2.2.1 O31 (fun _ _ h => h) (fun _ _ _ _ h => h))
   refine Pl.MSGV (v := .bool (convicts m26 m34)) Z rfl rfl gd_t rfl rfl (fun hb => (evs_c (evg hb rfl) (evs_c (evg hb rfl) rfl))) Tryd.call45 (fun hb => Convicts_v (m := m26) (m2 := m34) h39 h40) rfl (fun w' o' => ⟨fun _ => o', (Only.trans (Only.refl NoF w23) o' (fun _ h => h.elim))⟩) fun w41 o42 => ?_; clear Z az; intro az Z
   refine Pl.MSP (b := true) (by kernel_rfl) (fun W oW => r_and Z rfl rfl rfl) Z rfl rfl ?_; clear Z az; intro az Z
   refine wpPl_nil ?_
   refine k22 _ _ ?_
   refine br Z rfl (fun hc43 => ?_) (fun hc43 => ?_)
   ·
    have p44 := of_decide_eq_true (and_t hc43).1
    have q45 : convicts m26 m34 = true := (and_t hc43).2
    refine wp_region_lit ?_
    refine L (r_mv Z rfl) Z rfl ?_; clear Z az; intro az Z
    refine L (r_mv Z rfl) Z rfl ?_; clear Z az; intro az Z
    refine L (r_mv Z rfl) Z rfl ?_; clear Z az; intro az Z
    refine L (r_ia (k := i) (size := 5) Tryd.underlying22 Tryd.sizeOf42 Z rfl rfl rfl hk25 hA29) Z rfl ?_; clear Z az; intro az Z
    refine L (r_fa (m' := 1) Tryd.underlying42 rfl Tryd.sizeOf3 rfl Z rfl rfl) Z rfl ?_; clear Z az; intro az Z
    refine L (r_ld Tryd.isAgg3 Z rfl ((E30 _ o42) 1 _ rfl)) Z rfl ?_; clear Z az; intro az Z
    refine L (r_min Z rfl rfl) Z rfl ?_; clear Z az; intro az Z
    refine L (r_as Z rfl) Z rfl ?_; clear Z az; intro az Z
    refine k21 _ _ ?_
    refine wp_region_lit ?_
    refine L (r_mv Z rfl) Z rfl ?_; clear Z az; intro az Z
    have i46 : I64 (((k : Int) + 1)) := by unfold I64; omega
    refine L (r_addI (r := ((k : Int) + 1)) Z rfl rfl rfl i46) Z rfl ?_; clear Z az; intro az Z
    refine L (r_as Z rfl) Z rfl ?_; clear Z az; intro az Z
    have O47 : Only NoF w5 w41 := (Only.trans' (Only.trans' o15 o24) o42)
    exact ⟨_, (by omega), k + 1, _, rfl, Z.cut ⟨rfl, rfl, rfl, rfl, rfl, trivial⟩, (by omega), (fi_yes hm27 hm35 (by omega) hc43 hE), O47⟩
   ·
    have d48 := hc43
    refine wp_skip ?_
    refine k21 _ _ ?_
    refine wp_region_lit ?_
    refine L (r_mv Z rfl) Z rfl ?_; clear Z az; intro az Z
    have i49 : I64 (((k : Int) + 1)) := by unfold I64; omega
    refine L (r_addI (r := ((k : Int) + 1)) Z rfl rfl rfl i49) Z rfl ?_; clear Z az; intro az Z
    refine L (r_as Z rfl) Z rfl ?_; clear Z az; intro az Z
    have O50 : Only NoF w5 w41 := (Only.trans' (Only.trans' o15 o24) o42)
    exact ⟨_, (by omega), k + 1, _, rfl, Z.cut ⟨rfl, rfl, rfl, rfl, rfl, trivial⟩, (by omega), (fi_no hm27 hm35 hc43 hE), O50⟩
  ·
   have p51 := of_decide_eq_false hc19
   refine wp_exit ?_
   refine th_exit ?_
   refine th_exit ?_
   refine ib_hit ?_
   refine k12 _ _ ?_
   refine wp_region_lit ?_
   refine L (r_mv Z rfl) Z rfl ?_; clear Z az; intro az Z
   have i52 : I64 (((i : Int) + 1)) := by unfold I64; omega
   refine L (r_addI (r := ((i : Int) + 1)) Z rfl rfl rfl i52) Z rfl ?_; clear Z az; intro az Z
   refine L (r_as Z rfl) Z rfl ?_; clear Z az; intro az Z
   have O53 : Only NoF w w14 := (Only.trans' o6 o15)
   exact ⟨_, (by omega), i + 1, u, rfl, Z.cut ⟨rfl, rfl, rfl, rfl, trivial⟩, (by omega), (fi_row (by omega) hE), O53⟩
 ·
  have p54 := of_decide_eq_false hc10
  refine wp_exit ?_
  refine th_exit ?_
  refine th_exit ?_
  refine ib_hit ?_
  refine k3 _ _ (wp_seq_k fun _ k55 => wp_region_lit ?_)
  refine L (r_mv Z rfl) Z rfl ?_; clear Z az; intro az Z
  refine L (r_as Z rfl) Z rfl ?_; clear Z az; intro az Z
  refine k55 _ _ ?_
  refine wp_ret ?_
  show bodyPost _ _ _ .ret _ _
  refine ret_of (vs := [.int .i64 (v)]) Z Tryd.results31 ⟨rfl, trivial⟩ ?_
  exact ⟨_, rfl, fi_end (by omega) hF, o6⟩
theorem gap_v_ {w : World} {l : List NM} {A : Option Addr} {c : Nat} (t : NtV w (.slice A l.length c) l) (h : Int) : Calls Tryd.prog 32 [.slice A l.length c, .int .i64 h].toArray w (Fix (.int .i64 (gapN l h)) w) := by
 have hV := NtV.notes t
 have hbd1 := Nat.le_trans (SliceOf.cap_ hV) (SliceOf.lens hV).2
 unfold maxLen at hbd1
 refine calls_start Tryd.func32 rfl rfl ?_
 intro az Z
 rw [Tryd.ntmps32] at Z
 refine wp_seq_k fun _ k1 => wp_region_lit ?_
 refine L (r_as Z rfl) Z rfl ?_; clear Z az; intro az Z
 refine k1 _ _ (wp_seq_k fun _ k2 => wp_region_lit ?_)
 refine L (r_as Z rfl) Z rfl ?_; clear Z az; intro az Z
 refine k2 _ _ (wp_seq_k fun _ k3 => wp_region_lit ?_)
 obtain ⟨A4, w5, hw, hA, r6, o7⟩ := Row.madeN (w := w) KBool (e := 4) (l := List.replicate 400 (false : Bool)) (m := 400) List.length_replicate (by unfold maxLen; omega)
 refine L (r_mk1 (m := 400) (x := (false : Bool)) (v := .bool false) (b := 1) KBool Tryd.underlying76 (by kernel_rfl) (by decide) rfl rfl rfl Z rfl rfl (by decide)) Z rfl ?_
 rw [← hw, ← hA]; clear Z az; intro az Z
 clear hw hA
 obtain ⟨N8, hN9⟩ : ∃ N0 : List Bool, N0 = List.replicate 400 (false : Bool) := ⟨_, rfl⟩
 rw [← hN9] at r6
 have hl10 : N8.length = 400 := by rw [hN9, List.length_replicate]
 have ok11 : ∀ zq ∈ N8, KBool.ok zq := by rw [hN9]; intro zq hq; rw [List.eq_of_mem_replicate hq]; exact trivial
 refine L (r_as Z rfl) Z rfl ?_; clear Z az; intro az Z
 refine k3 _ _ (wp_seq_k fun _ k12 => ?_)
 refine wp_seq_k fun _ k13 => wp_region_lit ?_
 refine L (r_as Z rfl) Z rfl ?_; clear Z az; intro az Z
 refine k13 _ _ ?_
 refine wp_block ?_
 refine wp_loop_m (fun mz az W => ∃ i : Nat, ∃ z : Int, ∃ B : List Bool, mz = l.length - i ∧ Fr 88 [(0, .slice A (l.length) c), (1, .int .i64 (h)), (6, .slice A4 (400) 400), (7, .int .i64 ((i : Int))), (5, .int .i64 (z))] az ∧ (i ≤ l.length) ∧ (z = gneed (l.take i) h) ∧ (B = tabB (gthere (l.take i) h)) ∧ (B.length = 400) ∧ (-1 ≤ z ∧ z ≤ 400) ∧ Only (ownF (.slice A4 (400) 400)) w5 W ∧ W.ownsRow w.heap.size 4 1 (.slice A4 (400) 400) 400 (List.flatMap KBool.cells B)) ?_ ?_
 ·
  exact ⟨_, 0, (-1), N8, rfl, Z.cut ⟨rfl, rfl, rfl, rfl, rfl, trivial⟩, Nat.zero_le _, rfl, (hN9.trans (tbb_zero h)), hl10, (by omega), (Only.refl (ownF (.slice A4 (400) 400)) w5), r6⟩
 clear Z az
 rintro mz az w14 ⟨i, z, B, hm16, Z, hi, hz, hB, hBl, hzb, o15, rB⟩
 refine wp_seq_k fun _ k17 => ?_
 refine wp_seq_k fun _ k18 => wp_region_lit ?_
 refine L (r_mv Z rfl) Z rfl ?_; clear Z az; intro az Z
 refine L (r_mv Z rfl) Z rfl ?_; clear Z az; intro az Z
 refine L (r_lenL Tryd.underlying22 Z rfl) Z rfl ?_; clear Z az; intro az Z
 refine L (r_ltI Z rfl rfl) Z rfl ?_; clear Z az; intro az Z
 refine k18 _ _ ?_
 refine br Z rfl (fun hc19 => ?_) (fun hc19 => ?_)
 ·
  have p20 := of_decide_eq_true hc19
  refine wp_skip ?_
  refine k17 _ _ (wp_seq_k fun _ k21 => ?_)
  refine wp_block ?_
  refine wp_seq_k fun _ k22 => ?_
  refine wp_seq_k fun _ k23 => wp_region_lit ?_
  refine L (r_mv Z rfl) Z rfl ?_; clear Z az; intro az Z
  refine L (r_mv Z rfl) Z rfl ?_; clear Z az; intro az Z
  have hk24 : i < (l).length := by omega
  have O30 : Only NoF w w14 := (o_sg o7 o15 (Nat.le_refl _) (ownF_ge r6))
  have h31 := (SliceOf.kp hV O30 (fun _ _ h => h) (fun _ _ _ _ h => h))
  obtain ⟨m25, hm26, ok27, hA28⟩ := Row.el (KNote w) h31 hk24
  have E29 : ∀ W, Only NoF w14 W → CA W (eA A 5 (i)) [.int .i64 (m25.h), .int .i64 (m25.n), .int .i64 (m25.d), .slice m25.A (m25.l.length) m25.c, strV (m25.s)] := Row.ce (KNote w) h31 hm26 rfl
  have h33 := (SliceOf.kp ok27.2.2.2.1 O30 (fun _ _ h => h) (fun _ _ _ _ h => h))
  have hl32 := SliceOf.len h33; unfold maxLen at hl32
  refine L (r_ia (k := i) (size := 5) Tryd.underlying22 Tryd.sizeOf42 Z rfl rfl rfl hk24 hA28) Z rfl ?_; clear Z az; intro az Z
  refine L (r_ldA Tryd.isAgg42 Tryd.sizeOf42 Z rfl (E29 _ (Only.refl NoF w14)) rfl) Z rfl ?_; clear Z az; intro az Z
  refine LCV (v := .bool (right m25)) Z rfl rfl Tryd.call22 (Right_v h33) rfl fun w34 o35 => ?_; clear Z az; intro az Z
  refine L (r_not Z rfl) Z rfl ?_; clear Z az; intro az Z
  refine k23 _ _ ?_
  refine br Z rfl (fun hc36 => ?_) (fun hc36 => ?_)
  ·
   have q37 : right m25 = false := (nt_t hc36)
   refine wp_exit ?_
   refine th_exit ?_
   refine ib_hit ?_
   refine k21 _ _ ?_
   refine wp_region_lit ?_
   refine L (r_mv Z rfl) Z rfl ?_; clear Z az; intro az Z
   have i38 : I64 (((i : Int) + 1)) := by unfold I64; omega
   refine L (r_addI (r := ((i : Int) + 1)) Z rfl rfl rfl i38) Z rfl ?_; clear Z az; intro az Z
   refine L (r_as Z rfl) Z rfl ?_; clear Z az; intro az Z
   have r39 := (ow_k rB o35)
   exact ⟨_, (by omega), i + 1, z, B, rfl, Z.cut ⟨rfl, rfl, rfl, rfl, rfl, trivial⟩, (by omega), (gn_bad hm26 (nt_t hc36) hz), (gt_bad hm26 (nt_t hc36) hB), hBl, hzb, (Only.trans (Only.trans (Only.refl (ownF (.slice A4 (400) 400)) w5) o15 (fun _ h => .inl h)) o35 (fun _ h => h.elim)), r39⟩
  ·
   have q40 : right m25 = true := (nt_f hc36)
   have hrt : right m25 = true := nt_f hc36
   have hrb := right_bnd hrt
   refine wp_skip ?_
   refine k22 _ _ (wp_seq_k fun _ k41 => ?_)
   refine wp_seq_k fun _ k42 => wp_region_lit ?_
   refine L (r_mv Z rfl) Z rfl ?_; clear Z az; intro az Z
   refine L (r_mv Z rfl) Z rfl ?_; clear Z az; intro az Z
   refine L (r_ia (k := i) (size := 5) Tryd.underlying22 Tryd.sizeOf42 Z rfl rfl rfl hk24 hA28) Z rfl ?_; clear Z az; intro az Z
   refine L (r_fa (m' := 0) Tryd.underlying42 rfl Tryd.sizeOf3 rfl Z rfl rfl) Z rfl ?_; clear Z az; intro az Z
   refine L (r_ld Tryd.isAgg3 Z rfl ((E29 _ o35) 0 _ rfl)) Z rfl ?_; clear Z az; intro az Z
   refine L (r_mv Z rfl) Z rfl ?_; clear Z az; intro az Z
   refine L (r_eqI Z rfl rfl) Z rfl ?_; clear Z az; intro az Z
   refine k42 _ _ ?_
   refine br Z rfl (fun hc43 => ?_) (fun hc43 => ?_)
   ·
    have p44 := of_decide_eq_true hc43
    refine wp_seq_k fun _ k45 => wp_region_lit ?_
    refine L (r_mv Z rfl) Z rfl ?_; clear Z az; intro az Z
    refine L (r_mv Z rfl) Z rfl ?_; clear Z az; intro az Z
    refine L (r_mv Z rfl) Z rfl ?_; clear Z az; intro az Z
    refine L (r_ia (k := i) (size := 5) Tryd.underlying22 Tryd.sizeOf42 Z rfl rfl rfl hk24 hA28) Z rfl ?_; clear Z az; intro az Z
    refine L (r_fa (m' := 1) Tryd.underlying42 rfl Tryd.sizeOf3 rfl Z rfl rfl) Z rfl ?_; clear Z az; intro az Z
    refine L (r_ld Tryd.isAgg3 Z rfl ((E29 _ o35) 1 _ rfl)) Z rfl ?_; clear Z az; intro az Z
    have i46 : I64 ((m25.n - 1)) := by unfold I64; omega
    refine L (r_subI (r := (m25.n - 1)) Z rfl rfl rfl i46) Z rfl ?_; clear Z az; intro az Z
    refine L (r_max Z rfl rfl) Z rfl ?_; clear Z az; intro az Z
    refine L (r_as Z rfl) Z rfl ?_; clear Z az; intro az Z
    refine k45 _ _ ?_
    refine wp_region_lit ?_
    refine L (r_mv Z rfl) Z rfl ?_; clear Z az; intro az Z
    refine L (r_mv Z rfl) Z rfl ?_; clear Z az; intro az Z
    refine L (r_mv Z rfl) Z rfl ?_; clear Z az; intro az Z
    refine L (r_ia (k := i) (size := 5) Tryd.underlying22 Tryd.sizeOf42 Z rfl rfl rfl hk24 hA28) Z rfl ?_; clear Z az; intro az Z
    refine L (r_fa (m' := 1) Tryd.underlying42 rfl Tryd.sizeOf3 rfl Z rfl rfl) Z rfl ?_; clear Z az; intro az Z
    refine L (r_ld Tryd.isAgg3 Z rfl ((E29 _ o35) 1 _ rfl)) Z rfl ?_; clear Z az; intro az Z
    have r47 := (ow_k rB o35)
    have h48 := Row.ownN KBool r47 hBl (fun _ _ => trivial)
    obtain ⟨q49, hq50⟩ : ∃ q : Nat, m25.n = (q : Int) := ⟨m25.n.toNat, by omega⟩
    have hk51 : q49 < 400 := by omega
    have hk52 : q49 < (B).length := by omega
    obtain ⟨m53, hm54, ok55, hA56⟩ := Row.el KBool h48 hk52
    have E57 : ∀ W, Only NoF w34 W → CA W (eA A4 1 (q49)) [.bool (m53)] := Row.ce KBool h48 hm54 rfl
    refine L (r_ia (k := q49) (size := 1) Tryd.underlying76 Tryd.sizeOf4 Z rfl rfl hq50 hk51 hA56) Z rfl ?_; clear Z az; intro az Z
    have hk65 : q49 < 400 := by omega
    refine LStQ (k := q49) (x := true) KBool Tryd.sizeOf4 Z rfl rfl rfl rfl r47 hBl hk65 fun w58 o59 r60 => ?_
    obtain ⟨N61, hN62⟩ : ∃ N0, N0 = List.set B q49 true := ⟨_, rfl⟩
    rw [← hN62] at r60
    have hl63 : N61.length = 400 := by rw [hN62]; exact List.length_set.trans hBl
    have ok64 : ∀ zq ∈ N61, KBool.ok zq := by rw [hN62]; exact set_ok (fun _ _ => trivial) trivial
    refine k41 _ _ (wp_seq_k fun _ k66 => wp_region_lit ?_)
    refine L (r_as Z rfl) Z rfl ?_; clear Z az; intro az Z
    refine k66 _ _ ?_
    refine wp_block ?_
    refine wp_loop_m (fun mz az W => ∃ j : Nat, ∃ y : Int, mz = m25.l.length - j ∧ Fr 88 [(0, .slice A (l.length) c), (1, .int .i64 (h)), (6, .slice A4 (400) 400), (7, .int .i64 ((i : Int))), (8, .int .i64 ((j : Int))), (5, .int .i64 (y))] az ∧ (j ≤ m25.l.length) ∧ (y = (m25.l.take j).foldl (gR h) (gH h (gneed (l.take i) h) m25)) ∧ (-1 ≤ y ∧ y ≤ 400) ∧ Only NoF w58 W) ?_ ?_
    ·
     exact ⟨_, 0, (max (z) ((m25.n - 1))), rfl, Z.cut ⟨rfl, rfl, rfl, rfl, rfl, rfl, trivial⟩, Nat.zero_le _, (gh_yes hc43 hz), (by omega), (Only.refl NoF w58)⟩
    clear Z az
    rintro mz az w67 ⟨j, y, hm69, Z, hj, hy, hyb, o68⟩
    refine wp_seq_k fun _ k70 => ?_
    refine wp_seq_k fun _ k71 => wp_region_lit ?_
    refine L (r_mv Z rfl) Z rfl ?_; clear Z az; intro az Z
    refine L (r_mv Z rfl) Z rfl ?_; clear Z az; intro az Z
    refine L (r_mv Z rfl) Z rfl ?_; clear Z az; intro az Z
    refine L (r_ia (k := i) (size := 5) Tryd.underlying22 Tryd.sizeOf42 Z rfl rfl rfl hk24 hA28) Z rfl ?_; clear Z az; intro az Z
    refine L (r_fa (m' := 3) Tryd.underlying42 rfl Tryd.sizeOf36 rfl Z rfl rfl) Z rfl ?_; clear Z az; intro az Z
    have O72 : Only NoF w w67 := (Only.trans' (o_sg (Only.trans' O30 o35) o59 (Nat.le_refl _) (ownF_ge r6)) o68)
    have h73 := (SliceOf.kp hV O72 (fun _ _ h => h) (fun _ _ _ _ h => h))
    have E74 := Row.ce (KNote w) h73 hm26 rfl
    refine L (r_ld Tryd.isAgg36 Z rfl ((E74 _ (Only.refl NoF w67)) 3 _ rfl)) Z rfl ?_; clear Z az; intro az Z
    refine L (r_lenL Tryd.underlying36 Z rfl) Z rfl ?_; clear Z az; intro az Z
    refine L (r_ltI Z rfl rfl) Z rfl ?_; clear Z az; intro az Z
    refine k71 _ _ ?_
    refine br Z rfl (fun hc75 => ?_) (fun hc75 => ?_)
    ·
     have p76 := of_decide_eq_true hc75
     refine wp_skip ?_
     refine k70 _ _ (wp_seq_k fun _ k77 => ?_)
     refine wp_block ?_
     refine wp_seq_k fun _ k78 => wp_region_lit ?_
     refine L (r_mv Z rfl) Z rfl ?_; clear Z az; intro az Z
     refine L (r_mv Z rfl) Z rfl ?_; clear Z az; intro az Z
     refine L (r_ia (k := i) (size := 5) Tryd.underlying22 Tryd.sizeOf42 Z rfl rfl rfl hk24 hA28) Z rfl ?_; clear Z az; intro az Z
     refine L (r_fa (m' := 3) Tryd.underlying42 rfl Tryd.sizeOf36 rfl Z rfl rfl) Z rfl ?_; clear Z az; intro az Z
     refine L (r_ld Tryd.isAgg36 Z rfl ((E74 _ (Only.refl NoF w67)) 3 _ rfl)) Z rfl ?_; clear Z az; intro az Z
     refine L (r_mv Z rfl) Z rfl ?_; clear Z az; intro az Z
     have hk79 : j < (m25.l).length := by omega
     have h85 := (SliceOf.kp ok27.2.2.2.1 O72 (fun _ _ h => h) (fun _ _ _ _ h => h))
     obtain ⟨m80, hm81, ok82, hA83⟩ := Row.el KRef h85 hk79
     have E84 : ∀ W, Only NoF w67 W → CA W (eA m25.A 2 (j)) [.int .i64 (m80.h), .int .i64 (m80.n)] := Row.ce KRef h85 hm81 rfl
     have hrr := ref_bnd hrt hm81
     refine L (r_ia (k := j) (size := 2) Tryd.underlying36 Tryd.sizeOf40 Z rfl rfl rfl hk79 hA83) Z rfl ?_; clear Z az; intro az Z
     refine L (r_fa (m' := 0) Tryd.underlying40 rfl Tryd.sizeOf3 rfl Z rfl rfl) Z rfl ?_; clear Z az; intro az Z
     refine L (r_ld Tryd.isAgg3 Z rfl ((E84 _ (Only.refl NoF w67)) 0 _ rfl)) Z rfl ?_; clear Z az; intro az Z
     refine L (r_mv Z rfl) Z rfl ?_; clear Z az; intro az Z
     refine L (r_eqI Z rfl rfl) Z rfl ?_; clear Z az; intro az Z
     refine k78 _ _ ?_
     refine br Z rfl (fun hc87 => ?_) (fun hc87 => ?_)
     ·
      have p88 := of_decide_eq_true hc87
      refine wp_region_lit ?_
      refine L (r_mv Z rfl) Z rfl ?_; clear Z az; intro az Z
      refine L (r_mv Z rfl) Z rfl ?_; clear Z az; intro az Z
      refine L (r_mv Z rfl) Z rfl ?_; clear Z az; intro az Z
      refine L (r_ia (k := i) (size := 5) Tryd.underlying22 Tryd.sizeOf42 Z rfl rfl rfl hk24 hA28) Z rfl ?_; clear Z az; intro az Z
      refine L (r_fa (m' := 3) Tryd.underlying42 rfl Tryd.sizeOf36 rfl Z rfl rfl) Z rfl ?_; clear Z az; intro az Z
      refine L (r_ld Tryd.isAgg36 Z rfl ((E74 _ (Only.refl NoF w67)) 3 _ rfl)) Z rfl ?_; clear Z az; intro az Z
      refine L (r_mv Z rfl) Z rfl ?_; clear Z az; intro az Z
      refine L (r_ia (k := j) (size := 2) Tryd.underlying36 Tryd.sizeOf40 Z rfl rfl rfl hk79 hA83) Z rfl ?_; clear Z az; intro az Z
      refine L (r_fa (m' := 1) Tryd.underlying40 rfl Tryd.sizeOf3 rfl Z rfl rfl) Z rfl ?_; clear Z az; intro az Z
      refine L (r_ld Tryd.isAgg3 Z rfl ((E84 _ (Only.refl NoF w67)) 1 _ rfl)) Z rfl ?_; clear Z az; intro az Z
      refine L (r_max Z rfl rfl) Z rfl ?_; clear Z az; intro az Z
      refine L (r_as Z rfl) Z rfl ?_; clear Z az; intro az Z
      refine k77 _ _ ?_
      refine wp_region_lit ?_
      refine L (r_mv Z rfl) Z rfl ?_; clear Z az; intro az Z
      have i89 : I64 (((j : Int) + 1)) := by unfold I64; omega
      refine L (r_addI (r := ((j : Int) + 1)) Z rfl rfl rfl i89) Z rfl ?_; clear Z az; intro az Z
      refine L (r_as Z rfl) Z rfl ?_; clear Z az; intro az Z
      exact ⟨_, (by omega), j + 1, _, rfl, Z.cut ⟨rfl, rfl, rfl, rfl, rfl, rfl, trivial⟩, (by omega), (gr_yes hm81 hc87 hy), (by omega), o68⟩
     ·
      have p90 := of_decide_eq_false hc87
      refine wp_skip ?_
      refine k77 _ _ ?_
      refine wp_region_lit ?_
      refine L (r_mv Z rfl) Z rfl ?_; clear Z az; intro az Z
      have i91 : I64 (((j : Int) + 1)) := by unfold I64; omega
      refine L (r_addI (r := ((j : Int) + 1)) Z rfl rfl rfl i91) Z rfl ?_; clear Z az; intro az Z
      refine L (r_as Z rfl) Z rfl ?_; clear Z az; intro az Z
      exact ⟨_, (by omega), j + 1, _, rfl, Z.cut ⟨rfl, rfl, rfl, rfl, rfl, rfl, trivial⟩, (by omega), (gr_no hm81 hc87 hy), (by omega), o68⟩
    ·
     have p92 := of_decide_eq_false hc75
     refine wp_exit ?_
     refine th_exit ?_
     refine th_exit ?_
     refine ib_hit ?_
     refine k21 _ _ ?_
     refine wp_region_lit ?_
     refine L (r_mv Z rfl) Z rfl ?_; clear Z az; intro az Z
     have i93 : I64 (((i : Int) + 1)) := by unfold I64; omega
     refine L (r_addI (r := ((i : Int) + 1)) Z rfl rfl rfl i93) Z rfl ?_; clear Z az; intro az Z
     refine L (r_as Z rfl) Z rfl ?_; clear Z az; intro az Z
     have r94 := (ow_k r60 o68)
     exact ⟨_, (by omega), i + 1, y, N61, rfl, Z.cut ⟨rfl, rfl, rfl, rfl, rfl, trivial⟩, (by omega), (gn_end hm26 hrt (by omega) hy), (hN62.trans (gt_own hm26 hrt hc43 hq50 hB)), hl63, hyb, (Only.trans (Only.trans (Only.trans (Only.trans (Only.refl (ownF (.slice A4 (400) 400)) w5) o15 (fun _ h => .inl h)) o35 (fun _ h => h.elim)) o59 (fun _ h => .inl h)) o68 (fun _ h => h.elim)), r94⟩
   ·
    have p95 := of_decide_eq_false hc43
    refine wp_skip ?_
    refine k41 _ _ (wp_seq_k fun _ k96 => wp_region_lit ?_)
    refine L (r_as Z rfl) Z rfl ?_; clear Z az; intro az Z
    refine k96 _ _ ?_
    refine wp_block ?_
    refine wp_loop_m (fun mz az W => ∃ j : Nat, ∃ y : Int, mz = m25.l.length - j ∧ Fr 88 [(0, .slice A (l.length) c), (1, .int .i64 (h)), (6, .slice A4 (400) 400), (7, .int .i64 ((i : Int))), (8, .int .i64 ((j : Int))), (5, .int .i64 (y))] az ∧ (j ≤ m25.l.length) ∧ (y = (m25.l.take j).foldl (gR h) (gH h (gneed (l.take i) h) m25)) ∧ (-1 ≤ y ∧ y ≤ 400) ∧ Only NoF w34 W) ?_ ?_
    ·
     exact ⟨_, 0, z, rfl, Z.cut ⟨rfl, rfl, rfl, rfl, rfl, rfl, trivial⟩, Nat.zero_le _, (gh_no hc43 hz), (by omega), (Only.refl NoF w34)⟩
    clear Z az
    rintro mz az w97 ⟨j, y, hm99, Z, hj, hy, hyb, o98⟩
    refine wp_seq_k fun _ k100 => ?_
    refine wp_seq_k fun _ k101 => wp_region_lit ?_
    refine L (r_mv Z rfl) Z rfl ?_; clear Z az; intro az Z
    refine L (r_mv Z rfl) Z rfl ?_; clear Z az; intro az Z
    refine L (r_mv Z rfl) Z rfl ?_; clear Z az; intro az Z
    refine L (r_ia (k := i) (size := 5) Tryd.underlying22 Tryd.sizeOf42 Z rfl rfl rfl hk24 hA28) Z rfl ?_; clear Z az; intro az Z
    refine L (r_fa (m' := 3) Tryd.underlying42 rfl Tryd.sizeOf36 rfl Z rfl rfl) Z rfl ?_; clear Z az; intro az Z
    have O102 : Only NoF w14 w97 := (Only.trans' o35 o98)
    refine L (r_ld Tryd.isAgg36 Z rfl ((E29 _ O102) 3 _ rfl)) Z rfl ?_; clear Z az; intro az Z
    refine L (r_lenL Tryd.underlying36 Z rfl) Z rfl ?_; clear Z az; intro az Z
    refine L (r_ltI Z rfl rfl) Z rfl ?_; clear Z az; intro az Z
    refine k101 _ _ ?_
    refine br Z rfl (fun hc103 => ?_) (fun hc103 => ?_)
    ·
     have p104 := of_decide_eq_true hc103
     refine wp_skip ?_
     refine k100 _ _ (wp_seq_k fun _ k105 => ?_)
     refine wp_block ?_
     refine wp_seq_k fun _ k106 => wp_region_lit ?_
     refine L (r_mv Z rfl) Z rfl ?_; clear Z az; intro az Z
     refine L (r_mv Z rfl) Z rfl ?_; clear Z az; intro az Z
     refine L (r_ia (k := i) (size := 5) Tryd.underlying22 Tryd.sizeOf42 Z rfl rfl rfl hk24 hA28) Z rfl ?_; clear Z az; intro az Z
     refine L (r_fa (m' := 3) Tryd.underlying42 rfl Tryd.sizeOf36 rfl Z rfl rfl) Z rfl ?_; clear Z az; intro az Z
     refine L (r_ld Tryd.isAgg36 Z rfl ((E29 _ O102) 3 _ rfl)) Z rfl ?_; clear Z az; intro az Z
     refine L (r_mv Z rfl) Z rfl ?_; clear Z az; intro az Z
     have hk107 : j < (m25.l).length := by omega
     have O113 : Only NoF w w97 := (Only.trans' (Only.trans' O30 o35) o98)
     have h114 := (SliceOf.kp ok27.2.2.2.1 O113 (fun _ _ h => h) (fun _ _ _ _ h => h))
     obtain ⟨m108, hm109, ok110, hA111⟩ := Row.el KRef h114 hk107
     have E112 : ∀ W, Only NoF w97 W → CA W (eA m25.A 2 (j)) [.int .i64 (m108.h), .int .i64 (m108.n)] := Row.ce KRef h114 hm109 rfl
     have hrr := ref_bnd hrt hm109
     refine L (r_ia (k := j) (size := 2) Tryd.underlying36 Tryd.sizeOf40 Z rfl rfl rfl hk107 hA111) Z rfl ?_; clear Z az; intro az Z
     refine L (r_fa (m' := 0) Tryd.underlying40 rfl Tryd.sizeOf3 rfl Z rfl rfl) Z rfl ?_; clear Z az; intro az Z
     refine L (r_ld Tryd.isAgg3 Z rfl ((E112 _ (Only.refl NoF w97)) 0 _ rfl)) Z rfl ?_; clear Z az; intro az Z
     refine L (r_mv Z rfl) Z rfl ?_; clear Z az; intro az Z
     refine L (r_eqI Z rfl rfl) Z rfl ?_; clear Z az; intro az Z
     refine k106 _ _ ?_
     refine br Z rfl (fun hc116 => ?_) (fun hc116 => ?_)
     ·
      have p117 := of_decide_eq_true hc116
      refine wp_region_lit ?_
      refine L (r_mv Z rfl) Z rfl ?_; clear Z az; intro az Z
      refine L (r_mv Z rfl) Z rfl ?_; clear Z az; intro az Z
      refine L (r_mv Z rfl) Z rfl ?_; clear Z az; intro az Z
      refine L (r_ia (k := i) (size := 5) Tryd.underlying22 Tryd.sizeOf42 Z rfl rfl rfl hk24 hA28) Z rfl ?_; clear Z az; intro az Z
      refine L (r_fa (m' := 3) Tryd.underlying42 rfl Tryd.sizeOf36 rfl Z rfl rfl) Z rfl ?_; clear Z az; intro az Z
      refine L (r_ld Tryd.isAgg36 Z rfl ((E29 _ O102) 3 _ rfl)) Z rfl ?_; clear Z az; intro az Z
      refine L (r_mv Z rfl) Z rfl ?_; clear Z az; intro az Z
      refine L (r_ia (k := j) (size := 2) Tryd.underlying36 Tryd.sizeOf40 Z rfl rfl rfl hk107 hA111) Z rfl ?_; clear Z az; intro az Z
      refine L (r_fa (m' := 1) Tryd.underlying40 rfl Tryd.sizeOf3 rfl Z rfl rfl) Z rfl ?_; clear Z az; intro az Z
      refine L (r_ld Tryd.isAgg3 Z rfl ((E112 _ (Only.refl NoF w97)) 1 _ rfl)) Z rfl ?_; clear Z az; intro az Z
      refine L (r_max Z rfl rfl) Z rfl ?_; clear Z az; intro az Z
      refine L (r_as Z rfl) Z rfl ?_; clear Z az; intro az Z
      refine k105 _ _ ?_
      refine wp_region_lit ?_
      refine L (r_mv Z rfl) Z rfl ?_; clear Z az; intro az Z
      have i118 : I64 (((j : Int) + 1)) := by unfold I64; omega
      refine L (r_addI (r := ((j : Int) + 1)) Z rfl rfl rfl i118) Z rfl ?_; clear Z az; intro az Z
      refine L (r_as Z rfl) Z rfl ?_; clear Z az; intro az Z
      exact ⟨_, (by omega), j + 1, _, rfl, Z.cut ⟨rfl, rfl, rfl, rfl, rfl, rfl, trivial⟩, (by omega), (gr_yes hm109 hc116 hy), (by omega), o98⟩
     ·
      have p119 := of_decide_eq_false hc116
      refine wp_skip ?_
      refine k105 _ _ ?_
      refine wp_region_lit ?_
      refine L (r_mv Z rfl) Z rfl ?_; clear Z az; intro az Z
      have i120 : I64 (((j : Int) + 1)) := by unfold I64; omega
      refine L (r_addI (r := ((j : Int) + 1)) Z rfl rfl rfl i120) Z rfl ?_; clear Z az; intro az Z
      refine L (r_as Z rfl) Z rfl ?_; clear Z az; intro az Z
      exact ⟨_, (by omega), j + 1, _, rfl, Z.cut ⟨rfl, rfl, rfl, rfl, rfl, rfl, trivial⟩, (by omega), (gr_no hm109 hc116 hy), (by omega), o98⟩
    ·
     have p121 := of_decide_eq_false hc103
     refine wp_exit ?_
     refine th_exit ?_
     refine th_exit ?_
     refine ib_hit ?_
     refine k21 _ _ ?_
     refine wp_region_lit ?_
     refine L (r_mv Z rfl) Z rfl ?_; clear Z az; intro az Z
     have i122 : I64 (((i : Int) + 1)) := by unfold I64; omega
     refine L (r_addI (r := ((i : Int) + 1)) Z rfl rfl rfl i122) Z rfl ?_; clear Z az; intro az Z
     refine L (r_as Z rfl) Z rfl ?_; clear Z az; intro az Z
     have r123 := (ow_k (ow_k rB o35) o98)
     exact ⟨_, (by omega), i + 1, y, B, rfl, Z.cut ⟨rfl, rfl, rfl, rfl, rfl, trivial⟩, (by omega), (gn_end hm26 hrt (by omega) hy), (gt_other hm26 hc43 hB), hBl, hyb, (Only.trans (Only.trans (Only.trans (Only.refl (ownF (.slice A4 (400) 400)) w5) o15 (fun _ h => .inl h)) o35 (fun _ h => h.elim)) o98 (fun _ h => h.elim)), r123⟩
 ·
  have p124 := of_decide_eq_false hc19
  rw [List.take_of_length_le (by omega)] at hz hB
  have hBe := hB
  refine wp_exit ?_
  refine th_exit ?_
  refine th_exit ?_
  refine ib_hit ?_
  refine k12 _ _ (wp_seq_k fun _ k125 => ?_)
  refine wp_seq_k fun _ k126 => wp_region_lit ?_
  refine L (r_as Z rfl) Z rfl ?_; clear Z az; intro az Z
  refine k126 _ _ ?_
  refine wp_block ?_
  refine wp_loop_m (fun mz az W => ∃ p : Nat, mz = 401 - p ∧ Fr 88 [(5, .int .i64 (z)), (6, .slice A4 (400) 400), (9, .int .i64 ((p : Int)))] az ∧ ((p : Int) ≤ z + 1) ∧ (∀ q, q < p → gthere l h q = true) ∧ Only NoF w14 W) ?_ ?_
  ·
   exact ⟨_, 0, rfl, Z.cut ⟨rfl, rfl, rfl, trivial⟩, (by omega), (fun q hq => by omega), (Only.refl NoF w14)⟩
  clear Z az
  rintro mz az w127 ⟨p, hm129, Z, hp, h0, o128⟩
  refine wp_seq_k fun _ k130 => ?_
  refine wp_seq_k fun _ k131 => wp_region_lit ?_
  refine L (r_mv Z rfl) Z rfl ?_; clear Z az; intro az Z
  refine L (r_mv Z rfl) Z rfl ?_; clear Z az; intro az Z
  refine L (r_leI Z rfl rfl) Z rfl ?_; clear Z az; intro az Z
  refine k131 _ _ ?_
  refine br Z rfl (fun hc132 => ?_) (fun hc132 => ?_)
  ·
   have p133 := of_decide_eq_true hc132
   have hp4 : p < 400 := by have h1 := gneed_399 l h; omega
   refine wp_skip ?_
   refine k130 _ _ (wp_seq_k fun _ k134 => ?_)
   refine wp_block ?_
   refine wp_seq_k fun _ k135 => wp_region_lit ?_
   refine L (r_mv Z rfl) Z rfl ?_; clear Z az; intro az Z
   refine L (r_mv Z rfl) Z rfl ?_; clear Z az; intro az Z
   have r136 := (ow_k rB o128)
   have h137 := Row.ownN KBool r136 hBl (fun _ _ => trivial)
   have hk138 : p < 400 := by omega
   have hk139 : p < (B).length := by omega
   obtain ⟨m140, hm141, ok142, hA143⟩ := Row.el KBool h137 hk139
   have E144 : ∀ W, Only NoF w127 W → CA W (eA A4 1 (p)) [.bool (m140)] := Row.ce KBool h137 hm141 rfl
   refine L (r_ia (k := p) (size := 1) Tryd.underlying76 Tryd.sizeOf4 Z rfl rfl rfl hk138 hA143) Z rfl ?_; clear Z az; intro az Z
   refine L (r_ld Tryd.isAgg4 Z rfl (CA.first (E144 _ (Only.refl NoF w127)))) Z rfl ?_; clear Z az; intro az Z
   refine L (r_not Z rfl) Z rfl ?_; clear Z az; intro az Z
   refine k135 _ _ ?_
   refine br Z rfl (fun hc145 => ?_) (fun hc145 => ?_)
   ·
    have q146 : m140 = false := (nt_t hc145)
    refine wp_seq_k fun _ k147 => wp_region_lit ?_
    refine L (r_mv Z rfl) Z rfl ?_; clear Z az; intro az Z
    refine L (r_as Z rfl) Z rfl ?_; clear Z az; intro az Z
    refine k147 _ _ ?_
    refine wp_ret ?_
    show bodyPost _ _ _ .ret _ _
    refine ret_of (vs := [.int .i64 ((p : Int))]) Z Tryd.results32 ⟨rfl, trivial⟩ ?_
    have O148 : Only NoF w w127 := (Only.trans' (o_sg o7 o15 (Nat.le_refl _) (ownF_ge r6)) o128)
    rw [gap_hit hz (by omega) h0 ((tbb_at2 hB hp4 hm141).symm.trans (nt_t hc145))]; exact ⟨rfl, O148⟩
   ·
    have q149 : m140 = true := (nt_f hc145)
    refine wp_skip ?_
    refine k134 _ _ ?_
    refine wp_region_lit ?_
    refine L (r_mv Z rfl) Z rfl ?_; clear Z az; intro az Z
    have i150 : I64 (((p : Int) + 1)) := by unfold I64; omega
    refine L (r_addI (r := ((p : Int) + 1)) Z rfl rfl rfl i150) Z rfl ?_; clear Z az; intro az Z
    refine L (r_as Z rfl) Z rfl ?_; clear Z az; intro az Z
    exact ⟨_, (by omega), p + 1, rfl, Z.cut ⟨rfl, rfl, rfl, trivial⟩, (by omega), (gt_up h0 ((tbb_at2 hB hp4 hm141).symm.trans (nt_f hc145))), o128⟩
  ·
   have p151 := of_decide_eq_false hc132
   refine wp_exit ?_
   refine th_exit ?_
   refine th_exit ?_
   refine ib_hit ?_
   refine k125 _ _ (wp_seq_k fun _ k152 => wp_region_lit ?_)
   refine L (r_as Z rfl) Z rfl ?_; clear Z az; intro az Z
   refine k152 _ _ ?_
   refine wp_ret ?_
   show bodyPost _ _ _ .ret _ _
   refine ret_of (vs := [.int .i64 ((-1))]) Z Tryd.results32 ⟨rfl, trivial⟩ ?_
   have O153 : Only NoF w w127 := (Only.trans' (o_sg o7 o15 (Nat.le_refl _) (ownF_ge r6)) o128)
   rw [gap_none hz (by omega) h0]; exact ⟨rfl, O153⟩
theorem wants_v_ {w : World} (hG : Gr w) {l : List NM} {A : Option Addr} {c : Nat} (t : NtV w (.slice A l.length c) l) (hl : l.length ≤ 1000000) : Calls Tryd.prog 30 [.slice A l.length c].toArray w (ROut (wantsN (headsN (joinN l))) w) := by
 refine calls_start Tryd.func30 rfl rfl ?_
 intro az Z
 rw [Tryd.ntmps30] at Z
 refine wp_seq_k fun _ k1 => wp_region_lit ?_
 refine L (r_as Z rfl) Z rfl ?_; clear Z az; intro az Z
 refine k1 _ _ (wp_seq_k fun _ k2 => wp_region_lit ?_)
 obtain ⟨A3, w4, hw, hA, r5, o6⟩ := made0 (w := w) (e := 40) (size := 2)
 refine L (r_bs0 Tryd.underlying36 Tryd.sizeOf40) Z rfl ?_
 rw [← hw, ← hA]; clear Z az; intro az Z
 clear hw hA
 refine L (r_as Z rfl) Z rfl ?_; clear Z az; intro az Z
 refine k2 _ _ (wp_seq_k fun _ k7 => wp_region_lit ?_)
 refine L (r_mv Z rfl) Z rfl ?_; clear Z az; intro az Z
 have G15 := Gr.k hG o6
 refine LC Z rfl rfl Tryd.call19 (Heads_v_ G15 (NtV.k t o6) hl) rfl ?_
 rintro e w8 ⟨A10, c11, rfl, r12, ok13, o9⟩; refine ⟨_, rfl, ?_⟩
 have hhl := heads_bnd hl
 obtain ⟨N, hN⟩ : ∃ N, N = headsN (joinN l) := ⟨_, rfl⟩
 rw [← hN] at r12 ok13 hhl
 have hbn : ∀ r ∈ N, 1 ≤ r.n ∧ r.n ≤ 1000000 := by rw [hN]; exact heads_pos hl
 rw [← hN]
 clear Z az; intro az Z
 refine L (r_as Z rfl) Z rfl ?_; clear Z az; intro az Z
 refine k7 _ _ (wp_seq_k fun _ k16 => ?_)
 refine wp_seq_k fun _ k17 => wp_region_lit ?_
 refine L (r_as Z rfl) Z rfl ?_; clear Z az; intro az Z
 refine k17 _ _ ?_
 refine wp_block ?_
 have hS18 := SliceOf.lt2 (K := KRef) (Row.own KRef r12 ok13)
 have hq19 := ownF_lt r5
 refine wp_loop_m (fun mz az W => ∃ k : Nat, ∃ O : List RM, ∃ Ao : Option Addr, ∃ co : Nat, mz = N.length - k ∧ Fr 31 [(4, .slice A10 (N.length) c11), (5, .int .i64 ((k : Int))), (3, .slice Ao (O.length) co)] az ∧ (k ≤ N.length) ∧ (O = wantsN (N.take k)) ∧ (∀ k, ownF (.slice Ao O.length co) k → ¬ (geB w4.heap.size k ∧ k < w8.heap.size)) ∧ Only NoF w W ∧ W.ownsRow w.heap.size 40 2 (.slice Ao O.length co) O.length (List.flatMap KRef.cells O) ∧ SliceOf (fun k => geB w4.heap.size k ∧ k < w8.heap.size) 2 KRef.R W (.slice A10 N.length c11) N ∧ w8.heap.size ≤ W.heap.size) ?_ ?_
 ·
  have O20 : Only NoF w w8 := (Only.trans' o6 o9)
  have r21 := (ow_k r5 o9)
  exact ⟨_, 0, [], A3, 0, rfl, Z.cut ⟨rfl, rfl, rfl, trivial⟩, Nat.zero_le _, rfl, (fun k h hk => absurd (hq19 k h) (Nat.not_lt.2 hk.1)), O20, r21, hS18, (Nat.le_refl _)⟩
 clear Z az
 rintro mz az w22 ⟨k, O, Ao, co, hm24, Z, hk, hO, hsep, o23, rO, hNs, hge8⟩
 have hOk0 : ∀ r ∈ O, KRef.ok r := by rw [hO]; exact wa_ok (fun r hr => ok13 r (List.mem_of_mem_take hr)) (fun r hr => hbn r (List.mem_of_mem_take hr))
 have hOl : O.length ≤ N.length := by rw [hO, wa_len, List.length_take]; omega
 refine wp_seq_k fun _ k25 => ?_
 refine wp_seq_k fun _ k26 => wp_region_lit ?_
 refine L (r_mv Z rfl) Z rfl ?_; clear Z az; intro az Z
 refine L (r_mv Z rfl) Z rfl ?_; clear Z az; intro az Z
 refine L (r_lenL Tryd.underlying36 Z rfl) Z rfl ?_; clear Z az; intro az Z
 refine L (r_ltI Z rfl rfl) Z rfl ?_; clear Z az; intro az Z
 refine k26 _ _ ?_
 refine br Z rfl (fun hc27 => ?_) (fun hc27 => ?_)
 ·
  have p28 := of_decide_eq_true hc27
  refine wp_skip ?_
  refine k25 _ _ (wp_seq_k fun _ k29 => ?_)
  refine wp_block ?_
  refine reg_p (ownF (.slice Ao (O.length) co)) 1 [13, 14] (.rd 0 (.rd 1 (.rd 2 (.rd 3 (.rd 4 (.rd 5 (.rd 6 (.rd 7 (.rd 8 (.rd 9 (.rd 10 (.rd 11 (.rd 12 (.ex 13 (.ex 14 (.rd 15 .nil)))))))))))))))) (by kernel_rfl) (by kernel_rfl) (fun _ _ _ _ _ h => h) fun w30 o31 => ?_
  refine Pl.MSP (b := true) (by kernel_rfl) (fun W oW => r_mv Z rfl) Z rfl rfl ?_; clear Z az; intro az Z
  refine Pl.MSP (b := false) (by kernel_rfl) (fun W oW => r_mv Z rfl) Z rfl rfl ?_; clear Z az; intro az Z
  refine Pl.MSP (b := false) (by kernel_rfl) (fun W oW => r_mv Z rfl) Z rfl rfl ?_; clear Z az; intro az Z
  have hk32 : k < (N).length := by omega
  have h38 := (SliceOf.kp hNs o31 (fun _ _ h => h) (fun _ _ _ _ h => h))
  obtain ⟨m33, hm34, ok35, hA36⟩ := Row.el KRef h38 hk32
  have E37 : ∀ W, Only NoF w30 W → CA W (eA A10 2 (k)) [.int .i64 (m33.h), .int .i64 (m33.n)] := Row.ce KRef h38 hm34 rfl
  have hbq := hbn _ (List.mem_of_getElem? hm34)
  refine Pl.MSP (b := false) (by kernel_rfl) (fun W oW => r_ia (k := k) (size := 2) Tryd.underlying36 Tryd.sizeOf40 Z rfl rfl rfl hk32 hA36) Z rfl rfl ?_; clear Z az; intro az Z
  refine Pl.MSP (b := false) (by kernel_rfl) (fun W oW => r_fa (m' := 0) Tryd.underlying40 rfl Tryd.sizeOf3 rfl Z rfl rfl) Z rfl rfl ?_; clear Z az; intro az Z
  refine Pl.MSP (b := false) (by kernel_rfl) (fun W oW => r_ld Tryd.isAgg3 Z rfl ((Row.ce KRef (SliceOf.kp h38 oW (fun k hk h => hsep k h hk) (fun _ _ _ _ h => h)) hm34 rfl _ (Only.refl NoF _)) 0 _ rfl)) Z rfl rfl ?_; clear Z az; intro az Z
  refine Pl.MSP (b := false) (by kernel_rfl) (fun W oW => r_mv Z rfl) Z rfl rfl ?_; clear Z az; intro az Z
  refine Pl.MSP (b := false) (by kernel_rfl) (fun W oW => r_mv Z rfl) Z rfl rfl ?_; clear Z az; intro az Z
  refine Pl.MSP (b := false) (by kernel_rfl) (fun W oW => r_ia (k := k) (size := 2) Tryd.underlying36 Tryd.sizeOf40 Z rfl rfl rfl hk32 hA36) Z rfl rfl ?_; clear Z az; intro az Z
  refine Pl.MSP (b := false) (by kernel_rfl) (fun W oW => r_fa (m' := 1) Tryd.underlying40 rfl Tryd.sizeOf3 rfl Z rfl rfl) Z rfl rfl ?_; clear Z az; intro az Z
  refine Pl.MSP (b := false) (by kernel_rfl) (fun W oW => r_ld Tryd.isAgg3 Z rfl ((Row.ce KRef (SliceOf.kp h38 oW (fun k hk h => hsep k h hk) (fun _ _ _ _ h => h)) hm34 rfl _ (Only.refl NoF _)) 1 _ rfl)) Z rfl rfl ?_; clear Z az; intro az Z
  have i39 : I64 ((m33.n - 1)) := by unfold I64; omega
  refine Pl.MSP (b := false) (by kernel_rfl) (fun W oW => r_subI (r := (m33.n - 1)) Z rfl rfl rfl i39) Z rfl rfl ?_; clear Z az; intro az Z
  refine Pl.MSP (b := true) (by kernel_rfl) (fun W oW => r_bd (v := .agg #[.int .i64 (m33.h), .int .i64 ((m33.n - 1))]) (build_Ref2 _ _) Z rfl) Z rfl rfl ?_; clear Z az; intro az Z
  obtain ⟨A40, w41, hw, hA, r42, o43⟩ := Row.made (w := w30) KRef (e := 40) ([(⟨m33.h, (m33.n - 1)⟩ : RM)] : List RM) (by simp only [List.length_cons, List.length_nil]; unfold maxLen; omega)
  refine Pl.MD (r_bs (z := .agg #[.int .i64 (0), .int .i64 (0)]) (size := 2) (vs := [(0, .agg #[.int .i64 (m33.h), .int .i64 ((m33.n - 1))])]) (cs := List.flatMap KRef.cells [(⟨m33.h, (m33.n - 1)⟩ : RM)]) Tryd.underlying36 Tryd.sizeOf40 Tryd.zeroValue40 rfl (Fr.evalps Z rfl) (by kernel_rfl)) Z rfl rfl ?_ ?_
  · rw [← hw]; exact ⟨fun _ => o43, (Only.trans (Only.refl (ownF (.slice Ao (O.length) co)) w30) o43 (fun _ h => h.elim))⟩
  rw [← hw, ← hA]; clear Z az; intro az Z
  clear hw hA
  have ok44 : ∀ zq ∈ ([(⟨m33.h, (m33.n - 1)⟩ : RM)] : List RM), KRef.ok zq := by intro zq hx; simp only [List.mem_cons, List.not_mem_nil, or_false] at hx; rcases hx with rfl <;> first | exact (show I64 (m33.h) ∧ I64 ((m33.n - 1)) from ⟨ok35.1, by unfold I64; omega⟩)
  have r45 := (ow_k (ow_k rO o31) o43)
  have h46 := SliceOf.pl (Row.own KRef r42 ok44)
  have hb54 : (List.length (O) + List.length ([(⟨m33.h, (m33.n - 1)⟩ : RM)])) * 16 ≤ 140737488355328 := by (simp only [List.length_append, List.length_cons, List.length_nil]; omega)
  have O55 : Only NoF w w41 := (Only.trans' (Only.trans' o23 o31) o43)
  obtain ⟨A47, c48, w49, hr50, r51, o52, al53⟩ := Row.app (P := Tryd.prog) (l := O) (l2 := [(⟨m33.h, (m33.n - 1)⟩ : RM)]) KRef elemRef r45 h46 hb54 (by unfold maxLen; omega) (size_only O55)
  refine Pl.MD (r_app hr50 Z rfl rfl) Z rfl rfl ?_ ?_
  · exact ⟨fun h => absurd h (by decide), (Only.trans (Only.trans (Only.refl (ownF (.slice Ao (O.length) co)) w30) o43 (fun _ h => h.elim)) o52 (fun _ h => .inl h))⟩
  clear Z az; intro az Z
  have ok56 : ∀ zq ∈ (O ++ [(⟨m33.h, (m33.n - 1)⟩ : RM)]), KRef.ok zq := (fun x hx => (List.mem_append.1 hx).elim (hOk0 x) ((Row.oks KRef h46) x))
  have h57 := Row.own KRef r51 ok56
  refine Pl.MSP (b := false) (by kernel_rfl) (fun W oW => r_as Z rfl) Z rfl rfl ?_; clear Z az; intro az Z
  refine wpPl_nil ?_
  refine k29 _ _ ?_
  refine wp_region_lit ?_
  refine L (r_mv Z rfl) Z rfl ?_; clear Z az; intro az Z
  have i58 : I64 (((k : Int) + 1)) := by unfold I64; omega
  refine L (r_addI (r := ((k : Int) + 1)) Z rfl rfl rfl i58) Z rfl ?_; clear Z az; intro az Z
  refine L (r_as Z rfl) Z rfl ?_; clear Z az; intro az Z
  have O59 : Only NoF w22 w41 := (Only.trans' o31 o43)
  have O60 : Only NoF w w49 := (o_sg O55 o52 (Nat.le_refl _) (ownF_ge rO))
  have h61 := (SliceOf.kp (SliceOf.kp h38 o43 (fun _ _ h => h) (fun _ _ _ _ h => h)) o52 (fun k hk h => hsep k h hk) (fun _ _ _ _ h => h))
  have O62 := (Only.trans (Only.trans (Only.trans (Only.refl (fun _ => True) w22) o31 (fun _ _ => .inl trivial)) o43 (fun _ _ => .inl trivial)) o52 (fun _ _ => .inl trivial))
  exact ⟨_, (by omega), k + 1, _, A47, c48, rfl, Z.cut ⟨rfl, rfl, rfl, trivial⟩, (by omega), (by rw [hO, wa_step hm34]), (fun k h hk => (app_Fg al53 h).elim (fun h => hsep k h hk) (fun h => by rw [h] at hk; exact absurd hk.2 (Nat.not_lt.2 (Nat.le_trans hge8 (size_only O59))))), O60, r51, h61, (Nat.le_trans hge8 (size_only O62))⟩
 ·
  have p63 := of_decide_eq_false hc27
  refine wp_exit ?_
  refine th_exit ?_
  refine th_exit ?_
  refine ib_hit ?_
  refine k16 _ _ (wp_seq_k fun _ k64 => wp_region_lit ?_)
  refine L (r_mv Z rfl) Z rfl ?_; clear Z az; intro az Z
  refine L (r_as Z rfl) Z rfl ?_; clear Z az; intro az Z
  refine k64 _ _ ?_
  refine wp_ret ?_
  show bodyPost _ _ _ .ret _ _
  refine ret_of (vs := [.slice Ao (O.length) co]) Z Tryd.results30 ⟨rfl, trivial⟩ ?_
  rw [List.take_of_length_le (by omega)] at hO; rw [← hN]; subst hO; exact ⟨_, _, rfl, ow_low rO (Nat.le_refl _), hOk0, o23⟩
theorem shuf_v_ {w : World} {l : List NM} {A : Option Addr} {c : Nat} (f1 : SliceOf AllB 5 KN0.R w (.slice A l.length c) l) (hl : l.length ≤ 1000000) {Y : List UInt8} {A2 : Option Addr} {c2 : Nat} (f2 : SliceOf AllB 1 KU8.R w (.slice A2 Y.length c2) Y) (hY : Y.length ≤ 1000000) : Calls Tryd.prog 13 [.slice A l.length c, .slice A2 Y.length c2].toArray w (ShufTo l Y.length w) := by
 refine calls_start Tryd.func13 rfl rfl ?_
 intro az Z
 rw [Tryd.ntmps13] at Z
 refine wp_seq_k fun _ k1 => wp_region_lit ?_
 refine L (r_as Z rfl) Z rfl ?_; clear Z az; intro az Z
 refine k1 _ _ (wp_seq_k fun _ k2 => wp_region_lit ?_)
 obtain ⟨A3, w4, hw, hA, r5, o6⟩ := made0 (w := w) (e := 42) (size := 5)
 refine L (r_bs0 Tryd.underlying22 Tryd.sizeOf42) Z rfl ?_
 rw [← hw, ← hA]; clear Z az; intro az Z
 clear hw hA
 refine L (r_mv Z rfl) Z rfl ?_; clear Z az; intro az Z
 have h7 := (SliceOf.kp f1 o6 (fun _ _ h => h) (fun _ _ _ _ h => h))
 have hb15 : (List.length (([] : List NM)) + List.length (l)) * 64 ≤ 140737488355328 := by (simp only [List.length_append, List.length_cons, List.length_nil]; omega)
 obtain ⟨A8, c9, w10, hr11, r12, o13, al14⟩ := Row.app (P := Tryd.prog) (l := ([] : List NM)) (l2 := l) KN0 elemNote r5 h7 hb15 (by unfold maxLen; omega) (size_only o6)
 simp only [List.nil_append, List.append_nil] at hr11 r12 al14
 refine L (r_app hr11 Z rfl rfl) Z rfl ?_; clear Z az; intro az Z
 have ok16 : ∀ zq ∈ l, KN0.ok zq := (Row.oks KN0 h7)
 have h17 := Row.own KN0 r12 ok16
 refine L (r_as Z rfl) Z rfl ?_; clear Z az; intro az Z
 refine k2 _ _ (wp_seq_k fun _ k18 => ?_)
 refine wp_seq_k fun _ k19 => wp_region_lit ?_
 refine L (r_as Z rfl) Z rfl ?_; clear Z az; intro az Z
 refine k19 _ _ ?_
 refine wp_block ?_
 refine wp_loop_m (fun mz az W => ∃ k : Nat, ∃ O : List NM, ∃ Ao : Option Addr, ∃ co : Nat, mz = Y.length - k ∧ Fr 65 [(1, .slice A2 (Y.length) c2), (6, .int .i64 ((k : Int))), (5, .slice Ao (O.length) co)] az ∧ (k ≤ Y.length) ∧ (∀ x, x ∈ O ↔ x ∈ l) ∧ (O.length ≤ l.length + k) ∧ Only NoF w W ∧ W.ownsRow w.heap.size 42 5 (.slice Ao O.length co) O.length (List.flatMap KN0.cells O)) ?_ ?_
 ·
  have O20 : Only NoF w w10 := (o_sg o6 o13 (Nat.le_refl _) (ownF_ge r5))
  exact ⟨_, 0, l, A8, c9, rfl, Z.cut ⟨rfl, rfl, rfl, trivial⟩, Nat.zero_le _, (fun x => Iff.rfl), (by omega), O20, r12⟩
 clear Z az
 rintro mz az w21 ⟨k, O, Ao, co, hm23, Z, hk, hM, hOl, o22, rO⟩
 have hOo : O.length = O.length := rfl
 refine wp_seq_k fun _ k24 => ?_
 refine wp_seq_k fun _ k25 => wp_region_lit ?_
 refine L (r_mv Z rfl) Z rfl ?_; clear Z az; intro az Z
 have i26 : I64 (((k : Int) + 1)) := by unfold I64; omega
 refine L (r_addI (r := ((k : Int) + 1)) Z rfl rfl rfl i26) Z rfl ?_; clear Z az; intro az Z
 refine L (r_mv Z rfl) Z rfl ?_; clear Z az; intro az Z
 refine L (r_lenL Tryd.underlying23 Z rfl) Z rfl ?_; clear Z az; intro az Z
 refine L (r_ltI Z rfl rfl) Z rfl ?_; clear Z az; intro az Z
 refine L (r_mv Z rfl) Z rfl ?_; clear Z az; intro az Z
 refine LG Z rfl rfl gd_t (fun hb => r_mv Z rfl) rfl ?_; clear Z az; intro az Z
 refine LG Z rfl rfl gd_t (fun hb => r_lenL Tryd.underlying22 Z (evg hb rfl)) rfl ?_; clear Z az; intro az Z
 refine LG Z rfl rfl gd_t (fun hb => r_gtI Z (evg hb rfl) rfl) rfl ?_; clear Z az; intro az Z
 refine L (r_and Z rfl rfl rfl) Z rfl ?_; clear Z az; intro az Z
 refine k25 _ _ ?_
 refine br Z rfl (fun hc27 => ?_) (fun hc27 => ?_)
 ·
  have p28 := of_decide_eq_true (and_t hc27).1
  have p29 := of_decide_eq_true (and_t hc27).2
  have hb9 := and_t hc27
  have hb8 := of_decide_eq_true hb9.1; have hb7 := of_decide_eq_true hb9.2
  refine wp_skip ?_
  refine k24 _ _ (wp_seq_k fun _ k30 => ?_)
  refine wp_block ?_
  refine wp_seq_k fun _ k31 => wp_region_lit ?_
  refine L (r_mv Z rfl) Z rfl ?_; clear Z az; intro az Z
  refine L (r_mv Z rfl) Z rfl ?_; clear Z az; intro az Z
  have hk32 : k < (Y).length := by omega
  have h38 := (SliceOf.kp f2 o22 (fun _ _ h => h) (fun _ _ _ _ h => h))
  obtain ⟨m33, hm34, ok35, hA36⟩ := Row.el KU8 h38 hk32
  have E37 : ∀ W, Only NoF w21 W → CA W (eA A2 1 (k)) [.int .u8 (((m33.toNat : Nat) : Int))] := Row.ce KU8 h38 hm34 rfl
  refine L (r_ia (k := k) (size := 1) Tryd.underlying23 Tryd.sizeOf5 Z rfl rfl rfl hk32 hA36) Z rfl ?_; clear Z az; intro az Z
  refine L (r_ld Tryd.isAgg5 Z rfl (CA.first (E37 _ (Only.refl NoF w21)))) Z rfl ?_; clear Z az; intro az Z
  refine L (r_cvJ Tryd.underlying5 Tryd.underlying3 Z rfl (by have := UInt8.toNat_lt m33; omega)) Z rfl ?_; clear Z az; intro az Z
  refine L (r_mv Z rfl) Z rfl ?_; clear Z az; intro az Z
  refine L (r_lenL Tryd.underlying22 Z rfl) Z rfl ?_; clear Z az; intro az Z
  refine L (r_remI Z rfl rfl (by omega)) Z rfl ?_; clear Z az; intro az Z
  refine L (r_as Z rfl) Z rfl ?_; clear Z az; intro az Z
  refine k31 _ _ (wp_seq_k fun _ k39 => wp_region_lit ?_)
  refine L (r_mv Z rfl) Z rfl ?_; clear Z az; intro az Z
  refine L (r_mv Z rfl) Z rfl ?_; clear Z az; intro az Z
  have i40 : I64 (((k : Int) + 1)) := by unfold I64; omega
  refine L (r_addI (r := ((k : Int) + 1)) Z rfl rfl rfl i40) Z rfl ?_; clear Z az; intro az Z
  have hk41 : k + 1 < (Y).length := by omega
  obtain ⟨m42, hm43, ok44, hA45⟩ := Row.el KU8 h38 hk41
  have E46 : ∀ W, Only NoF w21 W → CA W (eA A2 1 (k + 1)) [.int .u8 (((m42.toNat : Nat) : Int))] := Row.ce KU8 h38 hm43 rfl
  refine L (r_ia (k := k + 1) (size := 1) Tryd.underlying23 Tryd.sizeOf5 Z rfl rfl (by omega) hk41 hA45) Z rfl ?_; clear Z az; intro az Z
  refine L (r_ld Tryd.isAgg5 Z rfl (CA.first (E46 _ (Only.refl NoF w21)))) Z rfl ?_; clear Z az; intro az Z
  refine L (r_cvJ Tryd.underlying5 Tryd.underlying3 Z rfl (by have := UInt8.toNat_lt m42; omega)) Z rfl ?_; clear Z az; intro az Z
  refine L (r_mv Z rfl) Z rfl ?_; clear Z az; intro az Z
  refine L (r_lenL Tryd.underlying22 Z rfl) Z rfl ?_; clear Z az; intro az Z
  refine L (r_remI Z rfl rfl (by omega)) Z rfl ?_; clear Z az; intro az Z
  refine L (r_as Z rfl) Z rfl ?_; clear Z az; intro az Z
  refine k39 _ _ (wp_seq_k fun _ k47 => wp_region_lit ?_)
  refine L (r_mv Z rfl) Z rfl ?_; clear Z az; intro az Z
  refine L (r_mv Z rfl) Z rfl ?_; clear Z az; intro az Z
  have h48 := Row.ownN KN0 rO hOo (fun _ _ => trivial)
  obtain ⟨p49, hq50, hl51⟩ := rem_at (b := m33) (n := O.length) (by omega)
  have hk52 : p49 < O.length := by omega
  have hk53 : p49 < (O).length := by omega
  obtain ⟨m54, hm55, ok56, hA57⟩ := Row.el KN0 h48 hk53
  have E58 : ∀ W, Only NoF w21 W → CA W (eA Ao 5 (p49)) [.int .i64 (m54.h), .int .i64 (m54.n), .int .i64 (m54.d), .slice m54.A (m54.l.length) m54.c, strV (m54.s)] := Row.ce KN0 h48 hm55 rfl
  refine L (r_ia (k := p49) (size := 5) Tryd.underlying22 Tryd.sizeOf42 Z rfl rfl hq50 hk52 hA57) Z rfl ?_; clear Z az; intro az Z
  refine L (r_ldA Tryd.isAgg42 Tryd.sizeOf42 Z rfl (E58 _ (Only.refl NoF w21)) rfl) Z rfl ?_; clear Z az; intro az Z
  refine LAl (v := .agg #[.int .i64 (0), .int .i64 (0), .int .i64 (0), .slice none (0) 0, strV ([])]) Tryd.zeroValue42 Z rfl rfl ?_
  clear Z az; intro g59 w60 hg63 hl64 o61 B62 az Z
  refine LSt (cs' := [.int .i64 (m54.h), .int .i64 (m54.n), .int .i64 (m54.d), .slice m54.A (m54.l.length) m54.c, strV (m54.s)]) Tryd.sizeOf42 Z rfl rfl rfl rfl rfl ⟨rfl, rfl, rfl, rfl, rfl, trivial⟩ B62 rfl rfl fun w65 s66 B67 => ?_
  refine k47 _ _ (wp_seq_k fun _ k68 => wp_region_lit ?_)
  refine L (r_mv Z rfl) Z rfl ?_; clear Z az; intro az Z
  refine L (r_mv Z rfl) Z rfl ?_; clear Z az; intro az Z
  refine L (r_mv Z rfl) Z rfl ?_; clear Z az; intro az Z
  refine L (r_mv Z rfl) Z rfl ?_; clear Z az; intro az Z
  have r69 := (ow_only (ow_k rO o61) s66 (fun k hk => lt_F (oneF_ge hg63) (Nat.le_refl _) k (ownF_lt rO k hk)))
  have h70 := Row.ownN KN0 r69 hOo (fun _ _ => trivial)
  obtain ⟨p71, hq72, hl73⟩ := rem_at (b := m42) (n := O.length) (by omega)
  have hk74 : p71 < O.length := by omega
  have hk75 : p71 < (O).length := by omega
  obtain ⟨m76, hm77, ok78, hA79⟩ := Row.el KN0 h70 hk75
  have E80 : ∀ W, Only NoF w65 W → CA W (eA Ao 5 (p71)) [.int .i64 (m76.h), .int .i64 (m76.n), .int .i64 (m76.d), .slice m76.A (m76.l.length) m76.c, strV (m76.s)] := Row.ce KN0 h70 hm77 rfl
  refine L (r_ia (k := p71) (size := 5) Tryd.underlying22 Tryd.sizeOf42 Z rfl rfl hq72 hk74 hA79) Z rfl ?_; clear Z az; intro az Z
  refine L (r_ldA Tryd.isAgg42 Tryd.sizeOf42 Z rfl (E80 _ (Only.refl NoF w65)) rfl) Z rfl ?_; clear Z az; intro az Z
  refine L (r_ia (k := p49) (size := 5) Tryd.underlying22 Tryd.sizeOf42 Z rfl rfl hq50 hk52 hA57) Z rfl ?_; clear Z az; intro az Z
  have hk88 : p49 < O.length := by omega
  refine LStQ (k := p49) (x := m76) KN0 Tryd.sizeOf42 Z rfl rfl rfl rfl r69 hOo hk88 fun w81 o82 r83 => ?_
  obtain ⟨N84, hN85⟩ : ∃ N0, N0 = List.set O p49 m76 := ⟨_, rfl⟩
  rw [← hN85] at r83
  have hl86 : N84.length = O.length := by rw [hN85]; exact List.length_set.trans hOo
  have ok87 : ∀ zq ∈ N84, KN0.ok zq := by rw [hN85]; exact set_ok (fun _ _ => trivial) trivial
  refine k68 _ _ (wp_seq_k fun _ k89 => wp_region_lit ?_)
  refine L (r_mv Z rfl) Z rfl ?_; clear Z az; intro az Z
  refine L (r_mv Z rfl) Z rfl ?_; clear Z az; intro az Z
  have B90 := (Blk.only B67 o82 (fun h => absurd ((ownF_lt rO) _ h) (Nat.not_lt.2 (Nat.le_trans (Nat.le_refl _) hg63))))
  refine L (r_ldA Tryd.isAgg42 Tryd.sizeOf42 Z rfl (Blk.ca B90) rfl) Z rfl ?_; clear Z az; intro az Z
  have h91 := Row.ownN KN0 r83 hl86 ok87
  have hk92 : p71 < O.length := by omega
  have hk93 : p71 < (N84).length := by omega
  obtain ⟨m94, hm95, ok96, hA97⟩ := Row.el KN0 h91 hk93
  have E98 : ∀ W, Only NoF w81 W → CA W (eA Ao 5 (p71)) [.int .i64 (m94.h), .int .i64 (m94.n), .int .i64 (m94.d), .slice m94.A (m94.l.length) m94.c, strV (m94.s)] := Row.ce KN0 h91 hm95 rfl
  refine L (r_ia (k := p71) (size := 5) Tryd.underlying22 Tryd.sizeOf42 Z rfl rfl hq72 hk92 hA97) Z rfl ?_; clear Z az; intro az Z
  have hk106 : p71 < O.length := by omega
  refine LStQ (k := p71) (x := m54) KN0 Tryd.sizeOf42 Z rfl rfl rfl rfl r83 hl86 hk106 fun w99 o100 r101 => ?_
  obtain ⟨N102, hN103⟩ : ∃ N0, N0 = List.set N84 p71 m54 := ⟨_, rfl⟩
  rw [← hN103] at r101
  have hl104 : N102.length = O.length := by rw [hN103]; exact List.length_set.trans hl86
  have ok105 : ∀ zq ∈ N102, KN0.ok zq := by rw [hN103]; exact set_ok ok87 trivial
  refine k89 _ _ (wp_seq_k fun _ k107 => wp_region_lit ?_)
  refine L (r_mv Z rfl) Z rfl ?_; clear Z az; intro az Z
  refine L (r_remI Z rfl rfl (by omega)) Z rfl ?_; clear Z az; intro az Z
  refine L (r_eqI Z rfl rfl) Z rfl ?_; clear Z az; intro az Z
  refine k107 _ _ ?_
  refine br Z rfl (fun hc108 => ?_) (fun hc108 => ?_)
  ·
   have p109 := of_decide_eq_true hc108
   refine wp_region_lit ?_
   refine L (r_mv Z rfl) Z rfl ?_; clear Z az; intro az Z
   have B110 := (Blk.only B90 o100 (fun h => absurd ((ownF_lt rO) _ h) (Nat.not_lt.2 (Nat.le_trans (Nat.le_refl _) hg63))))
   refine L (r_ldA Tryd.isAgg42 Tryd.sizeOf42 Z rfl (Blk.ca B110) rfl) Z rfl ?_; clear Z az; intro az Z
   obtain ⟨A111, w112, hw, hA, r113, o114⟩ := Row.made (w := w99) KN0 (e := 42) ([m54] : List NM) (by simp only [List.length_cons, List.length_nil]; unfold maxLen; omega)
   refine L (r_bs (z := .agg #[.int .i64 (0), .int .i64 (0), .int .i64 (0), .slice none (0) 0, strV ([])]) (size := 5) (vs := [(0, .agg #[.int .i64 (m54.h), .int .i64 (m54.n), .int .i64 (m54.d), .slice m54.A (m54.l.length) m54.c, strV (m54.s)])]) (cs := List.flatMap KN0.cells [m54]) Tryd.underlying22 Tryd.sizeOf42 Tryd.zeroValue42 rfl (Fr.evalps Z rfl) (by kernel_rfl)) Z rfl ?_
   rw [← hw, ← hA]; clear Z az; intro az Z
   clear hw hA
   have ok115 : ∀ zq ∈ ([m54] : List NM), KN0.ok zq := by intro zq hx; simp only [List.mem_cons, List.not_mem_nil, or_false] at hx; rcases hx with rfl <;> first | exact trivial
   have r116 := (ow_k r101 o114)
   have h117 := SliceOf.pl (Row.own KN0 r113 ok115)
   have hb125 : (List.length (N102) + List.length ([m54])) * 64 ≤ 140737488355328 := by (simp only [List.length_append, List.length_cons, List.length_nil]; omega)
   have O126 : Only NoF w w112 := (Only.trans' (o_sg (o_sg (o_sg (Only.trans' o22 o61) s66 (size_only o22) (oneF_ge hg63)) o82 (Nat.le_refl _) (ownF_ge rO)) o100 (Nat.le_refl _) (ownF_ge rO)) o114)
   obtain ⟨A118, c119, w120, hr121, r122, o123, al124⟩ := Row.app (P := Tryd.prog) (l := N102) (l2 := [m54]) KN0 elemNote (show w112.ownsRow w.heap.size 42 5 (.slice Ao (O.length) co) (List.length N102) (List.flatMap KN0.cells N102) by rw [hl104]; exact r116) h117 hb125 (by unfold maxLen; omega) (size_only O126)
   refine L (r_app hr121 Z rfl rfl) Z rfl ?_; clear Z az; intro az Z
   have ok127 : ∀ zq ∈ (N102 ++ [m54]), KN0.ok zq := (fun x hx => (List.mem_append.1 hx).elim (ok105 x) ((Row.oks KN0 h117) x))
   have h128 := Row.own KN0 r122 ok127
   refine L (r_as Z rfl) Z rfl ?_; clear Z az; intro az Z
   refine k30 _ _ ?_
   refine wp_region_lit ?_
   refine L (r_mv Z rfl) Z rfl ?_; clear Z az; intro az Z
   have i129 : I64 (((k : Int) + 1)) := by unfold I64; omega
   refine L (r_addI (r := ((k : Int) + 1)) Z rfl rfl rfl i129) Z rfl ?_; clear Z az; intro az Z
   refine L (r_as Z rfl) Z rfl ?_; clear Z az; intro az Z
   have O130 : Only NoF w w120 := (o_sg O126 o123 (Nat.le_refl _) (ownF_ge rO))
   exact ⟨_, (by omega), k + 1, _, A118, c119, rfl, Z.cut ⟨rfl, rfl, rfl, trivial⟩, (by omega), (fun x => app_mem (fun x => (by rw [hN103, hN85]; exact (swap_mem hm55 hm77 x).trans (hM x))) ((hM _).1 (List.mem_of_getElem? hm55)) x), (by rw [List.length_append, hl104]; simp only [List.length_cons, List.length_nil]; omega), O130, r122⟩
  ·
   have p131 := of_decide_eq_false hc108
   refine wp_skip ?_
   refine k30 _ _ ?_
   refine wp_region_lit ?_
   refine L (r_mv Z rfl) Z rfl ?_; clear Z az; intro az Z
   have i132 : I64 (((k : Int) + 1)) := by unfold I64; omega
   refine L (r_addI (r := ((k : Int) + 1)) Z rfl rfl rfl i132) Z rfl ?_; clear Z az; intro az Z
   refine L (r_as Z rfl) Z rfl ?_; clear Z az; intro az Z
   have hrr9 : w99.ownsRow w.heap.size 42 5 (.slice Ao (List.length N102) co) (List.length N102) (List.flatMap KN0.cells N102) := by rw [hl104]; exact r101
   rw [← hl104] at Z
   have O133 : Only NoF w w99 := (o_sg (o_sg (o_sg (Only.trans' o22 o61) s66 (size_only o22) (oneF_ge hg63)) o82 (Nat.le_refl _) (ownF_ge rO)) o100 (Nat.le_refl _) (ownF_ge rO))
   exact ⟨_, (by omega), k + 1, N102, Ao, co, rfl, Z.cut ⟨rfl, rfl, rfl, trivial⟩, (by omega), (fun x => (by rw [hN103, hN85]; exact (swap_mem hm55 hm77 x).trans (hM x))), (by rw [hl104]; omega), O133, hrr9⟩
 ·
  have d134 := hc27
  refine wp_exit ?_
  refine th_exit ?_
  refine th_exit ?_
  refine ib_hit ?_
  refine k18 _ _ (wp_seq_k fun _ k135 => wp_region_lit ?_)
  refine L (r_mv Z rfl) Z rfl ?_; clear Z az; intro az Z
  refine L (r_as Z rfl) Z rfl ?_; clear Z az; intro az Z
  refine k135 _ _ ?_
  refine wp_ret ?_
  show bodyPost _ _ _ .ret _ _
  refine ret_of (vs := [.slice Ao (O.length) co]) Z Tryd.results13 ⟨rfl, trivial⟩ ?_
  exact ⟨_, _, O, rfl, hM, by omega, rO, o22⟩
end Go.Proofs.YtdcbjedkddgfkaaDoor
