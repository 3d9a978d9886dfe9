/-
  Gossip's reference: before, put, Join, walked. Condition: at most 400,000 notes in each list.
  Gossip's reference: Houses, Forked, Forks, walked. Condition: at most 400,000 notes.
  Gossip's reference: Past, less, Talk, walked. Condition: at most 400,000 notes.
  Gossip's reference: Past, walked. Condition: at most 400,000 notes.
  Gossip's reference: less, Talk, walked. Condition: at most 400,000 notes.
-/
import Derived.Test.YtdcbjedkddgfkaaGreatDoorGoL
import Derived.Test.YtdcbjedkddgfkaaGreatDoorSR
namespace Go.Proofs.YtdcbjedkddgfkaaGreatDoor
set_option maxHeartbeats 4000000
set_option maxRecDepth 20000
set_option linter.unusedVariables false
set_option linter.unusedSimpArgs false
set_option linter.unusedSectionVars false
section
open Go.RowKit
/-- a list of notes, by what it spells; its header lies in S, its notes are among M -/
def PutTo (S : Nat → Prop) (M : NM → Prop) (N : List NM) (w : World) (e : Ending) (w' : World) : Prop := ∃ A c, ∃ P : List NM, e = .returned (.slice A P.length c) ∧ P.map ns = N ∧ SliceOf S 5 KN0.R w' (.slice A P.length c) P ∧ OkNs AllB w' P ∧ (∀ y ∈ P, M y) ∧ Only NoF w w'
def JnTo (l N : List NM) (w : World) : Ending → World → Prop := PutTo (geB w.heap.size) (fun y => y ∈ l) N w
theorem by64 {o i n k : Nat} (h1 : o ≤ 2 * i) (h2 : i ≤ n) (h3 : n ≤ 1000000) (hk : k ≤ o + 3) : k * 64 ≤ 140737488355328 := by omega
section
variable {a b m x y : NM} {l l2 O P P2 : List NM} {i j : Nat} {d : Bool}
theorem enc_yes (h : right m = true) : Value.tuple #[strV (if right m = true then encN m else []), .bool (right m)] = Value.tuple #[strV (encN m), .bool true] := by
 rw [if_pos h, h]
theorem bf_h (h : (!decide (a.h = b.h)) = true) : decide (cmpN a b < 0) = decide (a.h < b.h) := by
 have h1 : ¬ a.h = b.h := by simpa using h
 exact decide_eq_decide.2 (cmpN_lt.trans ⟨fun h => h.elim id fun h => absurd h.1 h1, .inl⟩)
theorem bf_n (h0 : (!decide (a.h = b.h)) = false) (h : (!decide (a.n = b.n)) = true) : decide (cmpN a b < 0) = decide (a.n < b.n) := by
 have h1 : a.h = b.h := by simpa using h0
 have h2 : ¬ a.n = b.n := by simpa using h
 refine decide_eq_decide.2 (cmpN_lt.trans ⟨fun h => ?_, fun h => .inr ⟨h1, .inl h⟩⟩)
 rcases h with h | ⟨_, h | h⟩
 · omega
 · exact h
 · exact absurd h.1 h2
theorem bf_e (h0 : (!decide (a.h = b.h)) = false) (h : (!decide (a.n = b.n)) = false) : decide (cmpN a b < 0) = decide (Lib.compareBytes (encN a) (encN b) < 0) := by
 have h1 : a.h = b.h := by simpa using h0
 have h2 : a.n = b.n := by simpa using h
 refine decide_eq_decide.2 (cmpN_lt.trans ⟨fun h => ?_, fun h => .inr ⟨h1, .inr ⟨h2, h⟩⟩⟩)
 rcases h with h | ⟨_, h | h⟩
 · omega
 · omega
 · exact h.2
def pstep (x : NM) (s : List NM × Bool) (y : NM) : List NM × Bool := if (!s.2 && decide (cmpN x y < 0)) = true then ((s.1 ++ [x]) ++ [y], true) else (s.1 ++ [y], s.2)
def pst (x : NM) (l : List NM) : List NM × Bool := l.foldl (pstep x) ([], false)
theorem pst_step (hm : l[i]? = some m) : pst x (l.take (i + 1)) = pstep x (pst x (l.take i)) m := by
 unfold pst
 rw [take_succ_get hm, List.foldl_append]; rfl
theorem ps_yes (hm : l[i]? = some m) (h : (!d && decide (cmpN x m < 0)) = true) (hO : pst x (l.take i) = (O, d)) : pst x (l.take (i + 1)) = ((O ++ [x]) ++ [m], true) := by
 rw [pst_step hm, hO]
 unfold pstep
 rw [if_pos h]
theorem ps_no (hm : l[i]? = some m) (h : (!d && decide (cmpN x m < 0)) = false) (hO : pst x (l.take i) = (O, d)) : pst x (l.take (i + 1)) = (O ++ [m], d) := by
 rw [pst_step hm, hO]
 unfold pstep
 rw [if_neg (by rw [h]; decide)]
theorem ps_mem1 (h : ∀ y ∈ O, y ∈ l ∨ y = x) : ∀ y ∈ O ++ [x], y ∈ l ∨ y = x := fun y hy => by
 rcases List.mem_append.1 hy with h1 | h1
 · exact h y h1
 · exact .inr (List.mem_singleton.1 h1)
theorem ps_mem (h : ∀ y ∈ O, y ∈ l ∨ y = x) (hm : m ∈ l) : ∀ y ∈ O ++ [m], y ∈ l ∨ y = x := fun y hy => by
 rcases List.mem_append.1 hy with h1 | h1
 · exact h y h1
 · rw [List.mem_singleton.1 h1]; exact .inl hm
theorem ps_mem2 (h : ∀ y ∈ O, y ∈ l ∨ y = x) (hm : m ∈ l) : ∀ y ∈ (O ++ [x]) ++ [m], y ∈ l ∨ y = x := ps_mem (ps_mem1 h) hm
theorem ps_true : ∀ (l : List NM) (O : List NM), l.foldl (pstep x) (O, true) = (O ++ l, true)
 | [], O => by simp
 | y :: l, O => by
  rw [List.foldl_cons]
  have e : pstep x (O, true) y = (O ++ [y], true) := by unfold pstep; simp
  rw [e, ps_true l]
  simp
theorem ps_all : ∀ (l : List NM) (O : List NM), (∀ y ∈ l, same y x = false) → ((if (l.foldl (pstep x) (O, false)).2 = true then (l.foldl (pstep x) (O, false)).1 else (l.foldl (pstep x) (O, false)).1 ++ [x]) : List NM).map ns = O.map ns ++ insN (ns x) (l.map ns)
 | [], O, _ => by simp [insN]
 | y :: l, O, h => by
  have hy : ¬ ns x = ns y := fun e => by
   have h1 := h y List.mem_cons_self
   rw [same_ns.2 e.symm] at h1; cases h1
  rw [List.foldl_cons, List.map_cons]
  unfold insN
  rw [if_neg hy, cmpN_ns]
  by_cases hc : cmpN x y < 0
  · have e : pstep x (O, false) y = ((O ++ [x]) ++ [y], true) := by unfold pstep; simp [hc]
    rw [e, ps_true, if_pos hc, if_pos rfl]
    simp
  · have e : pstep x (O, false) y = (O ++ [y], false) := by unfold pstep; simp [hc]
    rw [e, if_neg hc, ps_all l (O ++ [y]) fun z hz => h z (List.mem_cons_of_mem _ hz)]
    simp
theorem ps_end1 (hO : pst x l = (O, d)) (hns : ∀ y ∈ l, same y x = false) (hd : (!d) = true) : (O ++ [x]).map ns = insN (ns x) (l.map ns) := by
 have h1 := ps_all (x := x) l [] hns
 have h2 : l.foldl (pstep x) ([], false) = (O, d) := hO
 rw [h2] at h1
 have hd2 : d = false := by simpa using hd
 subst hd2
 simpa using h1
theorem ps_end2 (hO : pst x l = (O, d)) (hns : ∀ y ∈ l, same y x = false) (hd : (!d) = false) : O.map ns = insN (ns x) (l.map ns) := by
 have h1 := ps_all (x := x) l [] hns
 have h2 : l.foldl (pstep x) ([], false) = (O, d) := hO
 rw [h2] at h1
 have hd2 : d = true := by simpa using hd
 subst hd2
 simpa using h1
theorem pt_no (h : (!right x) = true) : ¬ right x = true := by
 intro e; rw [e] at h; cases h
theorem good_of (hg : ∀ y ∈ l, right y = true) : GoodN (l.map ns) := fun y hy => by
 obtain ⟨z, hz, rfl⟩ := List.mem_map.1 hy
 exact ⟨by rw [right_ns]; exact hg z hz, rfl⟩
theorem put_same (hs : SortedN (l.map ns)) (hg : ∀ y ∈ l, right y = true) (hr : right x = true) (hm : l[i]? = some m) (h : same m x = true) : insN (ns x) (l.map ns) = l.map ns := by
 have h1 : right (ns x) = true ∧ ns (ns x) = ns x := ⟨by rw [right_ns]; exact hr, rfl⟩
 refine sorted_uniq (ins_sorted h1 (good_of hg) hs) hs fun y => ?_
 rw [mem_insN]
 constructor
 · rintro (h2 | h2)
   · rw [h2, ← same_ns.1 h]; exact List.mem_map_of_mem (List.mem_of_getElem? hm)
   · exact h2
 · exact .inr
theorem joinN_one (l : List NM) (x : NM) : joinN (l ++ [x]) = if right x = true then insN (ns x) (joinN l) else joinN l := by
 unfold joinN
 rw [List.filter_append, List.foldl_append]
 by_cases h : right x = true
 · rw [if_pos h]
   have : List.filter right [x] = [x] := by simp [h]
   rw [this]; rfl
 · rw [if_neg h]
   have : List.filter right [x] = [] := by simp [h]
   rw [this]; rfl
theorem join_step (hm : l[i]? = some x) (hP : P.map ns = joinN (l.take i)) (h2 : P2.map ns = if right x = true then insN (ns x) (P.map ns) else P.map ns) : P2.map ns = joinN (l.take (i + 1)) := by
 rw [take_succ_get hm, joinN_one, h2, hP]
theorem join_step2 (hm : l2[j]? = some x) (hP : P.map ns = joinN (l ++ l2.take j)) (h2 : P2.map ns = if right x = true then insN (ns x) (P.map ns) else P.map ns) : P2.map ns = joinN (l ++ l2.take (j + 1)) := by
 rw [take_succ_get hm, ← List.append_assoc, joinN_one, h2, hP]
theorem pl_1 (hP : P.map ns = joinN (l.take i)) (hl : l.length ≤ 400000) (_ : l2.length ≤ 400000) : P.length ≤ 1000000 := by
 have h1 := congrArg List.length hP
 have h2 := joinN_le (l.take i)
 rw [List.length_map] at h1
 rw [List.length_take] at h2
 omega
theorem pl_2 (hP : P.map ns = joinN (l ++ l2.take j)) (hl : l.length ≤ 400000) (hl2 : l2.length ≤ 400000) : P.length ≤ 1000000 := by
 have h1 := congrArg List.length hP
 have h2 := joinN_le (l ++ l2.take j)
 rw [List.length_map] at h1
 rw [List.length_append, List.length_take] at h2
 omega
end
theorem before39_v_ {w : World} {a b : NM} (ha : okN AllB w a) (hb : okN AllB w b) (hra : right a = true) (hrb : right b = true) : Calls Tryz.prog 57 [.agg #[.int .i64 a.h, .int .i64 a.n, .int .i64 a.d, .slice a.A a.l.length a.c, strV a.s], .agg #[.int .i64 b.h, .int .i64 b.n, .int .i64 b.d, .slice b.A b.l.length b.c, strV b.s]].toArray w (Fix (.bool (decide (cmpN a b < 0))) w) := by
 refine calls_start Tryz.func57 rfl rfl ?_
 intro az Z
 rw [Tryz.ntmps57] at Z
 refine wp_seq_k fun _ k1 => wp_region_lit ?_
 refine LBox Z rfl rfl rfl ?_
 clear Z az; intro g2 w3 hg6 hl7 o4 B5 az Z
 refine LBox Z rfl rfl rfl ?_
 clear Z az; intro g8 w9 hg12 hl13 o10 B11 az Z
 refine L (r_as Z rfl) Z rfl ?_; clear Z az; intro az Z
 refine k1 _ _ (wp_seq_k fun _ k14 => ?_)
 refine wp_seq_k fun _ k15 => wp_region_lit ?_
 refine L (r_fa (m' := 0) Tryz.underlying43 rfl Tryz.sizeOf3 rfl Z rfl rfl) Z rfl ?_; clear Z az; intro az Z
 have B16 := (Blk.k B5 o10)
 refine L (r_ld Tryz.isAgg3 Z rfl ((Blk.ca B16) 0 _ rfl)) Z rfl ?_; clear Z az; intro az Z
 refine L (r_fa (m' := 0) Tryz.underlying43 rfl Tryz.sizeOf3 rfl Z rfl rfl) Z rfl ?_; clear Z az; intro az Z
 refine L (r_ld Tryz.isAgg3 Z rfl ((Blk.ca B11) 0 _ rfl)) Z rfl ?_; clear Z az; intro az Z
 refine L (r_neI Z rfl rfl) Z rfl ?_; clear Z az; intro az Z
 refine k15 _ _ ?_
 refine br Z rfl (fun hc17 => ?_) (fun hc17 => ?_)
 ·
  have p18 := of_decide_eq_false (nt_t hc17)
  refine wp_seq_k fun _ k19 => wp_region_lit ?_
  refine L (r_fa (m' := 0) Tryz.underlying43 rfl Tryz.sizeOf3 rfl Z rfl rfl) Z rfl ?_; clear Z az; intro az Z
  refine L (r_ld Tryz.isAgg3 Z rfl ((Blk.ca B16) 0 _ rfl)) Z rfl ?_; clear Z az; intro az Z
  refine L (r_fa (m' := 0) Tryz.underlying43 rfl Tryz.sizeOf3 rfl Z rfl rfl) Z rfl ?_; clear Z az; intro az Z
  refine L (r_ld Tryz.isAgg3 Z rfl ((Blk.ca B11) 0 _ rfl)) Z rfl ?_; clear Z az; intro az Z
  refine L (r_ltI Z rfl rfl) Z rfl ?_; clear Z az; intro az Z
  refine L (r_as Z rfl) Z rfl ?_; clear Z az; intro az Z
  refine k19 _ _ ?_
  refine wp_ret ?_
  show bodyPost _ _ _ .ret _ _
  refine ret_of (vs := [.bool (decide (a.h < b.h))]) Z Tryz.results57 ⟨rfl, trivial⟩ ?_
  have O20 : Only NoF w w9 := (Only.trans' o4 o10)
  rw [bf_h hc17]; exact ⟨rfl, O20⟩
 ·
  have p21 := of_decide_eq_true (nt_f hc17)
  refine wp_skip ?_
  refine k14 _ _ (wp_seq_k fun _ k22 => ?_)
  refine wp_seq_k fun _ k23 => wp_region_lit ?_
  refine L (r_fa (m' := 1) Tryz.underlying43 rfl Tryz.sizeOf3 rfl Z rfl rfl) Z rfl ?_; clear Z az; intro az Z
  refine L (r_ld Tryz.isAgg3 Z rfl ((Blk.ca B16) 1 _ rfl)) Z rfl ?_; clear Z az; intro az Z
  refine L (r_fa (m' := 1) Tryz.underlying43 rfl Tryz.sizeOf3 rfl Z rfl rfl) Z rfl ?_; clear Z az; intro az Z
  refine L (r_ld Tryz.isAgg3 Z rfl ((Blk.ca B11) 1 _ rfl)) Z rfl ?_; clear Z az; intro az Z
  refine L (r_neI Z rfl rfl) Z rfl ?_; clear Z az; intro az Z
  refine k23 _ _ ?_
  refine br Z rfl (fun hc24 => ?_) (fun hc24 => ?_)
  ·
   have p25 := of_decide_eq_false (nt_t hc24)
   refine wp_seq_k fun _ k26 => wp_region_lit ?_
   refine L (r_fa (m' := 1) Tryz.underlying43 rfl Tryz.sizeOf3 rfl Z rfl rfl) Z rfl ?_; clear Z az; intro az Z
   refine L (r_ld Tryz.isAgg3 Z rfl ((Blk.ca B16) 1 _ rfl)) Z rfl ?_; clear Z az; intro az Z
   refine L (r_fa (m' := 1) Tryz.underlying43 rfl Tryz.sizeOf3 rfl Z rfl rfl) Z rfl ?_; clear Z az; intro az Z
   refine L (r_ld Tryz.isAgg3 Z rfl ((Blk.ca B11) 1 _ rfl)) Z rfl ?_; clear Z az; intro az Z
   refine L (r_ltI Z rfl rfl) Z rfl ?_; clear Z az; intro az Z
   refine L (r_as Z rfl) Z rfl ?_; clear Z az; intro az Z
   refine k26 _ _ ?_
   refine wp_ret ?_
   show bodyPost _ _ _ .ret _ _
   refine ret_of (vs := [.bool (decide (a.n < b.n))]) Z Tryz.results57 ⟨rfl, trivial⟩ ?_
   have O27 : Only NoF w w9 := (Only.trans' o4 o10)
   rw [bf_n hc17 hc24]; exact ⟨rfl, O27⟩
  ·
   have p28 := of_decide_eq_true (nt_f hc24)
   refine wp_skip ?_
   refine k22 _ _ (wp_seq_k fun _ k29 => wp_region_lit ?_)
   refine L (r_ldA Tryz.isAgg43 Tryz.sizeOf43 Z rfl (Blk.ca B16) rfl) Z rfl ?_; clear Z az; intro az Z
   have O30 : Only NoF w w9 := (Only.trans' o4 o10)
   refine LCV (v := .tuple #[strV ((encN a)), .bool (true)]) Z rfl rfl Tryz.call95 (fix_eq (enc_yes hra) (rEncode_v (m := a) (okN.note (okN.k ha O30)))) rfl fun w31 o32 => ?_; clear Z az; intro az Z
   refine L (r_mv Z rfl) Z rfl ?_; clear Z az; intro az Z
   refine L (r_ex Z rfl rfl) Z rfl ?_; clear Z az; intro az Z
   refine L (r_ex Z rfl rfl) Z rfl ?_; clear Z az; intro az Z
   refine L (r_as Z rfl) Z rfl ?_; clear Z az; intro az Z
   refine L (r_as Z rfl) Z rfl ?_; clear Z az; intro az Z
   refine k29 _ _ (wp_seq_k fun _ k33 => wp_region_lit ?_)
   have B34 := (Blk.k B11 o32)
   refine L (r_ldA Tryz.isAgg43 Tryz.sizeOf43 Z rfl (Blk.ca B34) rfl) Z rfl ?_; clear Z az; intro az Z
   have O35 : Only NoF w w31 := (Only.trans' O30 o32)
   refine LCV (v := .tuple #[strV ((encN b)), .bool (true)]) Z rfl rfl Tryz.call95 (fix_eq (enc_yes hrb) (rEncode_v (m := b) (okN.note (okN.k hb O35)))) rfl fun w36 o37 => ?_; clear Z az; intro az Z
   refine L (r_mv Z rfl) Z rfl ?_; clear Z az; intro az Z
   refine L (r_ex Z rfl rfl) Z rfl ?_; clear Z az; intro az Z
   refine L (r_ex Z rfl rfl) Z rfl ?_; clear Z az; intro az Z
   refine L (r_as Z rfl) Z rfl ?_; clear Z az; intro az Z
   refine L (r_as Z rfl) Z rfl ?_; clear Z az; intro az Z
   refine k33 _ _ (wp_seq_k fun _ k38 => wp_region_lit ?_)
   refine L (r_mv Z rfl) Z rfl ?_; clear Z az; intro az Z
   refine L (r_mv Z rfl) Z rfl ?_; clear Z az; intro az Z
   refine L (r_ltS Z rfl rfl) Z rfl ?_; clear Z az; intro az Z
   refine L (r_as Z rfl) Z rfl ?_; clear Z az; intro az Z
   refine k38 _ _ ?_
   refine wp_ret ?_
   show bodyPost _ _ _ .ret _ _
   refine ret_of (vs := [.bool (decide (Lib.compareBytes (encN a) (encN b) < 0))]) Z Tryz.results57 ⟨rfl, trivial⟩ ?_
   have O39 : Only NoF w w36 := (Only.trans' O35 o37)
   rw [bf_e hc17 hc24]; exact ⟨rfl, O39⟩
theorem put39_v_ {w : World} {S : Nat → Prop} {l : List NM} {A : Option Addr} {c : Nat} (f : SliceOf S 5 KN0.R w (.slice A l.length c) l) (hn : OkNs AllB w l) (hS : ∀ k, w.heap.size ≤ k → S k) (hl : l.length ≤ 1000000) {x : NM} (hx : okN AllB w x) (hst : SortedN (l.map ns)) (hgd : ∀ y ∈ l, right y = true) : Calls Tryz.prog 35 [.slice A l.length c, .agg #[.int .i64 x.h, .int .i64 x.n, .int .i64 x.d, .slice x.A x.l.length x.c, strV x.s]].toArray w (PutTo S (fun y => y ∈ l ∨ y = x) (if right x = true then insN (ns x) (l.map ns) else l.map ns) w) := by
 have t : NtV w (.slice A l.length c) l := ⟨SliceOf.pl f, hn⟩
 refine calls_start Tryz.func35 rfl rfl ?_
 intro az Z
 rw [Tryz.ntmps35] at Z
 refine wp_seq_k fun _ k1 => wp_region_lit ?_
 refine LBox Z rfl rfl rfl ?_
 clear Z az; intro g2 w3 hg6 hl7 o4 B5 az Z
 refine L (r_as Z rfl) Z rfl ?_; clear Z az; intro az Z
 refine k1 _ _ (wp_seq_k fun _ k8 => ?_)
 refine wp_seq_k fun _ k9 => wp_region_lit ?_
 refine L (r_ldA Tryz.isAgg43 Tryz.sizeOf43 Z rfl (Blk.ca B5) rfl) Z rfl ?_; clear Z az; intro az Z
 have h10 := (SliceOf.kp hx.2.2.2.1 o4 (fun _ _ h => h) (fun _ _ _ _ h => h))
 refine LCV (v := .bool (right x)) Z rfl rfl Tryz.call56 (rRight_v (m := x) h10) rfl fun w11 o12 => ?_; clear Z az; intro az Z
 refine L (r_not Z rfl) Z rfl ?_; clear Z az; intro az Z
 refine k9 _ _ ?_
 refine br Z rfl (fun hc13 => ?_) (fun hc13 => ?_)
 ·
  have q14 : right x = false := (nt_t hc13)
  refine wp_seq_k fun _ k15 => wp_region_lit ?_
  refine L (r_mv Z rfl) Z rfl ?_; clear Z az; intro az Z
  refine L (r_as Z rfl) Z rfl ?_; clear Z az; intro az Z
  refine k15 _ _ ?_
  refine wp_ret ?_
  show bodyPost _ _ _ .ret _ _
  refine ret_of (vs := [.slice A (l.length) c]) Z Tryz.results35 ⟨rfl, trivial⟩ ?_
  have O16 : Only NoF w w11 := (Only.trans' o4 o12)
  exact ⟨A, c, l, rfl, by rw [if_neg (pt_no hc13)], SliceOf.kp f O16 (fun _ _ h => h) (fun _ _ _ _ h => h), hn.k O16, fun y hy => .inl hy, O16⟩
 ·
  have q17 : right x = true := (nt_f hc13)
  refine wp_skip ?_
  refine k8 _ _ (wp_seq_k fun _ k18 => wp_region_lit ?_)
  obtain ⟨A19, w20, hw, hA, r21, o22⟩ := made0 (w := w11) (e := 43) (size := 5)
  refine L (r_bs0 Tryz.underlying22 Tryz.sizeOf43) Z rfl ?_
  rw [← hw, ← hA]; clear Z az; intro az Z
  clear hw hA
  refine L (r_as Z rfl) Z rfl ?_; clear Z az; intro az Z
  refine k18 _ _ (wp_seq_k fun _ k23 => wp_region_lit ?_)
  refine L (r_as Z rfl) Z rfl ?_; clear Z az; intro az Z
  refine k23 _ _ (wp_seq_k fun _ k24 => ?_)
  refine wp_seq_k fun _ k25 => wp_region_lit ?_
  refine L (r_as Z rfl) Z rfl ?_; clear Z az; intro az Z
  refine k25 _ _ ?_
  refine wp_block ?_
  refine wp_loop_m (fun mz az W => ∃ i : Nat, ∃ O : List NM, ∃ d : Bool, ∃ Ao : Option Addr, ∃ co : Nat, mz = l.length - i ∧ Fr 54 [(0, .slice A (l.length) c), (3, .pointer (some ((⟨g2, 0, none⟩ : Addr)))), (7, .int .i64 ((i : Int))), (5, .slice Ao (O.length) co), (6, .bool (d))] az ∧ (i ≤ l.length) ∧ (pst x (l.take i) = (O, d)) ∧ (∀ y ∈ l.take i, same y x = false) ∧ (O.length ≤ 2 * i) ∧ (∀ y ∈ O, y ∈ l ∨ y = x) ∧ Only NoF w11 W ∧ W.ownsRow w11.heap.size 43 5 (.slice Ao O.length co) O.length (List.flatMap KN0.cells O)) ?_ ?_
  ·
   exact ⟨_, 0, [], false, A19, 0, rfl, Z.cut ⟨rfl, rfl, rfl, rfl, rfl, trivial⟩, Nat.zero_le _, rfl, tk_nil, Nat.le_refl _, (fun y hy => by cases hy), o22, r21⟩
  clear Z az
  rintro mz az w26 ⟨i, O, d, Ao, co, hm28, Z, hi, hO, hns, hOl, hOk, o27, rO⟩
  refine wp_seq_k fun _ k29 => ?_
  refine wp_seq_k fun _ k30 => wp_region_lit ?_
  refine L (r_mv Z rfl) Z rfl ?_; clear Z az; intro az Z
  refine L (r_mv Z rfl) Z rfl ?_; clear Z az; intro az Z
  refine L (r_lenL Tryz.underlying22 Z rfl) Z rfl ?_; clear Z az; intro az Z
  refine L (r_ltI Z rfl rfl) Z rfl ?_; clear Z az; intro az Z
  refine k30 _ _ ?_
  refine br Z rfl (fun hc31 => ?_) (fun hc31 => ?_)
  ·
   have p32 := of_decide_eq_true hc31
   refine wp_skip ?_
   refine k29 _ _ (wp_seq_k fun _ k33 => ?_)
   refine wp_block ?_
   refine wp_seq_k fun _ k34 => ?_
   refine wp_seq_k fun _ k35 => ?_
   refine reg_p NoF 1 [5] (.rd 0 (.rd 1 (.rd 2 (.rd 3 (.rd 4 (.ex 5 .nil)))))) (by kernel_rfl) (by kernel_rfl) (fun _ _ _ _ _ h => h) fun w36 o37 => ?_
   have B38 := (Blk.k (Blk.k (Blk.k B5 o12) o27) o37)
   refine Pl.MSP (b := true) (by kernel_rfl) (fun W oW => r_mv Z rfl) Z rfl rfl ?_; clear Z az; intro az Z
   refine Pl.MSP (b := true) (by kernel_rfl) (fun W oW => r_mv Z rfl) Z rfl rfl ?_; clear Z az; intro az Z
   have hk39 : i < (l).length := by omega
   have O45 : Only NoF w w36 := (Only.trans' (Only.trans' (Only.trans' o4 o12) o27) o37)
   have h46 := (SliceOf.kp t.1 O45 (fun _ _ h => h) (fun _ _ _ _ h => h))
   obtain ⟨m40, hm41, ok42, hA43⟩ := Row.el KN0 h46 hk39
   have E44 : ∀ W, Only NoF w36 W → CA W (eA A 5 (i)) [.int .i64 (m40.h), .int .i64 (m40.n), .int .i64 (m40.d), .slice m40.A (m40.l.length) m40.c, strV (m40.s)] := Row.ce KN0 h46 hm41 rfl
   refine Pl.MSP (b := true) (by kernel_rfl) (fun W oW => r_ia (k := i) (size := 5) Tryz.underlying22 Tryz.sizeOf43 Z rfl rfl rfl hk39 hA43) Z rfl rfl ?_; clear Z az; intro az Z
   refine Pl.MSP (b := true) (by kernel_rfl) (fun W oW => r_ldA Tryz.isAgg43 Tryz.sizeOf43 Z rfl (E44 _ (Only.trans' (Only.refl NoF w36) oW)) rfl) Z rfl rfl ?_; clear Z az; intro az Z
   refine Pl.MSP (b := true) (by kernel_rfl) (fun W oW => r_ldA Tryz.isAgg43 Tryz.sizeOf43 Z rfl (Blk.ca (Blk.k B38 oW)) rfl) Z rfl rfl ?_; clear Z az; intro az Z
   have h47 := (SliceOf.kp (t.2 _ (List.mem_of_getElem? hm41)).2.2.2.1 O45 (fun _ _ h => h) (fun _ _ _ _ h => h))
   have h48 := (SliceOf.kp hx.2.2.2.1 O45 (fun _ _ h => h) (fun _ _ _ _ h => h))
   refine Pl.MSV (v := .bool (same m40 x)) Z rfl rfl rfl Tryz.call33 (rSame_v (m := m40) (m2 := x) h47 h48) rfl (fun w' o' => ⟨fun _ => o', (Only.trans (Only.refl NoF w36) o' (fun _ h => h.elim))⟩) fun w49 o50 => ?_; clear Z az; intro az Z
   refine wpPl_nil ?_
   refine k35 _ _ ?_
   refine br Z rfl (fun hc51 => ?_) (fun hc51 => ?_)
   ·
    have q52 : same m40 x = true := hc51
    refine wp_seq_k fun _ k53 => wp_region_lit ?_
    refine L (r_mv Z rfl) Z rfl ?_; clear Z az; intro az Z
    refine L (r_as Z rfl) Z rfl ?_; clear Z az; intro az Z
    refine k53 _ _ ?_
    refine wp_ret ?_
    show bodyPost _ _ _ .ret _ _
    refine ret_of (vs := [.slice A (l.length) c]) Z Tryz.results35 ⟨rfl, trivial⟩ ?_
    have O54 : Only NoF w w49 := (Only.trans' O45 o50)
    exact ⟨A, c, l, rfl, by rw [if_pos (nt_f hc13)]; exact (put_same hst hgd (nt_f hc13) hm41 hc51).symm, SliceOf.kp f O54 (fun _ _ h => h) (fun _ _ _ _ h => h), hn.k O54, fun y hy => .inl hy, O54⟩
   ·
    have q55 : same m40 x = false := hc51
    refine wp_skip ?_
    refine k34 _ _ (wp_seq_k fun _ k56 => ?_)
    refine wp_seq_k fun _ k57 => ?_
    refine reg_p NoF 1 [8] (.rd 0 (.rd 1 (.rd 2 (.rd 3 (.rd 4 (.rd 5 (.rd 6 (.rd 7 (.ex 8 (.rd 9 .nil)))))))))) (by kernel_rfl) (by kernel_rfl) (fun _ _ _ _ _ h => h) fun w58 o59 => ?_
    have B60 := (Blk.k (Blk.k B38 o50) o59)
    refine Pl.MSP (b := true) (by kernel_rfl) (fun W oW => r_mv Z rfl) Z rfl rfl ?_; clear Z az; intro az Z
    refine Pl.MSP (b := true) (by kernel_rfl) (fun W oW => r_not Z rfl) Z rfl rfl ?_; clear Z az; intro az Z
    refine Pl.MSP (b := true) (by kernel_rfl) (fun W oW => r_mv Z rfl) Z rfl rfl ?_; clear Z az; intro az Z
    refine Pl.MSPG (b := true) (by kernel_rfl) Z rfl rfl gd_t (fun hb W oW => r_ldA Tryz.isAgg43 Tryz.sizeOf43 Z rfl (Blk.ca (Blk.k B60 oW)) rfl) rfl rfl ?_; clear Z az; intro az Z
    refine Pl.MSPG (b := true) (by kernel_rfl) Z rfl rfl gd_t (fun hb W oW => r_mv Z rfl) rfl rfl ?_; clear Z az; intro az Z
    refine Pl.MSPG (b := true) (by kernel_rfl) Z rfl rfl gd_t (fun hb W oW => r_mv Z rfl) rfl rfl ?_; clear Z az; intro az Z
    refine Pl.MSPG (b := true) (by kernel_rfl) Z rfl rfl gd_t (fun hb W oW => r_ia (k := i) (size := 5) Tryz.underlying22 Tryz.sizeOf43 Z (evg hb rfl) (evg hb rfl) rfl hk39 hA43) rfl rfl ?_; clear Z az; intro az Z
    have O61 : Only NoF w36 w58 := (Only.trans' o50 o59)
    refine Pl.MSPG (b := true) (by kernel_rfl) Z rfl rfl gd_t (fun hb W oW => r_ldA Tryz.isAgg43 Tryz.sizeOf43 Z (evg hb rfl) (E44 _ (Only.trans' O61 oW)) rfl) rfl rfl ?_; clear Z az; intro az Z
    have O62 : Only NoF w w58 := (Only.trans' (Only.trans' O45 o50) o59)
    have h63 := (SliceOf.kp hx.2.2.2.1 O62 (fun _ _ h => h) (fun _ _ _ _ h => h))
    have h64 := (SliceOf.kp (t.2 _ (List.mem_of_getElem? hm41)).2.2.2.1 O62 (fun _ _ h => h) (fun _ _ _ _ h => h))
    refine Pl.MSGV (v := .bool (decide (cmpN x m40 < 0))) Z rfl rfl gd_t rfl rfl (fun hb => (evs_c (evg hb rfl) (evs_c (evg hb rfl) rfl))) Tryz.call57 (fun hb => before39_v_ (okN.k hx O62) (okN.k (t.2 _ (List.mem_of_getElem? hm41)) O62) (nt_f hc13) (hgd _ (List.mem_of_getElem? hm41))) rfl (fun w' o' => ⟨fun _ => o', (Only.trans (Only.refl NoF w58) o' (fun _ h => h.elim))⟩) fun w65 o66 => ?_; clear Z az; intro az Z
    refine Pl.MSP (b := true) (by kernel_rfl) (fun W oW => r_and Z rfl rfl rfl) Z rfl rfl ?_; clear Z az; intro az Z
    refine wpPl_nil ?_
    refine k57 _ _ ?_
    refine br Z rfl (fun hc67 => ?_) (fun hc67 => ?_)
    ·
     have q68 : d = false := (nt_t (and_t hc67).1)
     have p69 := of_decide_eq_true (and_t hc67).2
     refine wp_seq_k fun _ k70 => wp_region_lit ?_
     refine L (r_mv Z rfl) Z rfl ?_; clear Z az; intro az Z
     have B71 := (Blk.k B60 o66)
     refine L (r_ldA Tryz.isAgg43 Tryz.sizeOf43 Z rfl (Blk.ca B71) rfl) Z rfl ?_; clear Z az; intro az Z
     obtain ⟨A72, w73, hw, hA, r74, o75⟩ := Row.made (w := w65) KN0 (e := 43) ([x] : List NM) (by simp only [List.length_cons, List.length_nil]; unfold maxLen; omega)
     refine L (r_bs (z := .agg #[.int .i64 (0), .int .i64 (0), .int .i64 (0), .slice none (0) 0, strV ([])]) (size := 5) (vs := [(0, .agg #[.int .i64 (x.h), .int .i64 (x.n), .int .i64 (x.d), .slice x.A (x.l.length) x.c, strV (x.s)])]) (cs := List.flatMap KN0.cells [x]) Tryz.underlying22 Tryz.sizeOf43 Tryz.zeroValue43 rfl (Fr.evalps Z rfl) (by kernel_rfl)) Z rfl ?_
     rw [← hw, ← hA]; clear Z az; intro az Z
     clear hw hA
     have ok76 : ∀ zq ∈ ([x] : List NM), KN0.ok zq := by intro zq hx; simp only [List.mem_cons, List.not_mem_nil, or_false] at hx; rcases hx with rfl <;> first | exact trivial
     have r77 := (ow_k (ow_k (ow_k (ow_k (ow_k rO o37) o50) o59) o66) o75)
     have h78 := SliceOf.pl (Row.own KN0 r74 ok76)
     have hb86 : (List.length (O) + List.length ([x])) * 64 ≤ 140737488355328 := by (exact by64 hOl hi hl (by simp only [List.length_append, List.length_cons, List.length_nil, Nat.add_assoc]; exact Nat.add_le_add_left (by decide) _))
     have O87 : Only NoF w11 w73 := (Only.trans' (Only.trans' (Only.trans' (Only.trans' (Only.trans' o27 o37) o50) o59) o66) o75)
     obtain ⟨A79, c80, w81, hr82, r83, o84, al85⟩ := Row.app (P := Tryz.prog) (l := O) (l2 := [x]) KN0 elemNote r77 h78 hb86 (by unfold maxLen; omega) (size_only O87)
     refine L (r_app hr82 Z rfl rfl) Z rfl ?_; clear Z az; intro az Z
     have ok88 : ∀ zq ∈ (O ++ [x]), KN0.ok zq := (fun x hx => (List.mem_append.1 hx).elim ((fun _ _ => trivial) x) ((Row.oks KN0 h78) x))
     have h89 := Row.own KN0 r83 ok88
     refine L (r_as Z rfl) Z rfl ?_; clear Z az; intro az Z
     refine k70 _ _ ?_
     refine wp_region_lit ?_
     refine L (r_as Z rfl) Z rfl ?_; clear Z az; intro az Z
     refine k56 _ _ ?_
     refine wp_region_lit ?_
     refine L (r_mv Z rfl) Z rfl ?_; clear Z az; intro az Z
     refine L (r_mv Z rfl) Z rfl ?_; clear Z az; intro az Z
     refine L (r_mv Z rfl) Z rfl ?_; clear Z az; intro az Z
     refine L (r_ia (k := i) (size := 5) Tryz.underlying22 Tryz.sizeOf43 Z rfl rfl rfl hk39 hA43) Z rfl ?_; clear Z az; intro az Z
     have O90 : Only NoF w w11 := (Only.trans' o4 o12)
     have O91 : Only NoF w w81 := (o_sg (Only.trans' (Only.trans' O62 o66) o75) o84 (size_only O90) (ownF_ge rO))
     have h92 := (SliceOf.kp t.1 O91 (fun _ _ h => h) (fun _ _ _ _ h => h))
     have E93 := Row.ce KN0 h92 hm41 rfl
     refine L (r_ldA Tryz.isAgg43 Tryz.sizeOf43 Z rfl (E93 _ (Only.refl NoF w81)) rfl) Z rfl ?_; clear Z az; intro az Z
     obtain ⟨A94, w95, hw, hA, r96, o97⟩ := Row.made (w := w81) KN0 (e := 43) ([m40] : List NM) (by simp only [List.length_cons, List.length_nil]; unfold maxLen; omega)
     refine L (r_bs (z := .agg #[.int .i64 (0), .int .i64 (0), .int .i64 (0), .slice none (0) 0, strV ([])]) (size := 5) (vs := [(0, .agg #[.int .i64 (m40.h), .int .i64 (m40.n), .int .i64 (m40.d), .slice m40.A (m40.l.length) m40.c, strV (m40.s)])]) (cs := List.flatMap KN0.cells [m40]) Tryz.underlying22 Tryz.sizeOf43 Tryz.zeroValue43 rfl (Fr.evalps Z rfl) (by kernel_rfl)) Z rfl ?_
     rw [← hw, ← hA]; clear Z az; intro az Z
     clear hw hA
     have ok98 : ∀ zq ∈ ([m40] : List NM), KN0.ok zq := by intro zq hx; simp only [List.mem_cons, List.not_mem_nil, or_false] at hx; rcases hx with rfl <;> first | exact trivial
     have r99 := (ow_k r83 o97)
     have h100 := SliceOf.pl (Row.own KN0 r96 ok98)
     have hb108 : (List.length ((O ++ [x])) + List.length ([m40])) * 64 ≤ 140737488355328 := by (exact by64 hOl hi hl (by simp only [List.length_append, List.length_cons, List.length_nil, Nat.add_assoc]; exact Nat.add_le_add_left (by decide) _))
     have O109 : Only NoF w11 w95 := (Only.trans' (o_sg O87 o84 (Nat.le_refl _) (ownF_ge rO)) o97)
     obtain ⟨A101, c102, w103, hr104, r105, o106, al107⟩ := Row.app (P := Tryz.prog) (l := (O ++ [x])) (l2 := [m40]) KN0 elemNote r99 h100 hb108 (by unfold maxLen; omega) (size_only O109)
     refine L (r_app hr104 Z rfl rfl) Z rfl ?_; clear Z az; intro az Z
     have ok110 : ∀ zq ∈ ((O ++ [x]) ++ [m40]), KN0.ok zq := (fun x hx => (List.mem_append.1 hx).elim (ok88 x) ((Row.oks KN0 h100) x))
     have h111 := Row.own KN0 r105 ok110
     refine L (r_as Z rfl) Z rfl ?_; clear Z az; intro az Z
     refine k33 _ _ ?_
     refine wp_region_lit ?_
     refine L (r_mv Z rfl) Z rfl ?_; clear Z az; intro az Z
     have i112 : I64 (((i : Int) + 1)) := by unfold I64; omega
     refine L (r_addI (r := ((i : Int) + 1)) Z rfl rfl rfl i112) Z rfl ?_; clear Z az; intro az Z
     refine L (r_as Z rfl) Z rfl ?_; clear Z az; intro az Z
     have O113 : Only NoF w11 w103 := (o_sg O109 o106 (Nat.le_refl _) (ownF_ge r83))
     exact ⟨_, (by omega), i + 1, ((O ++ [x]) ++ [m40]), true, A101, c102, rfl, Z.cut ⟨rfl, rfl, rfl, rfl, rfl, trivial⟩, (by omega), (ps_yes hm41 hc67 hO), (tk_step hns hm41 hc51), (by simp only [List.length_append, List.length_cons, List.length_nil]; omega), (ps_mem2 hOk (List.mem_of_getElem? hm41)), O113, r105⟩
    ·
     have d114 := hc67
     refine wp_skip ?_
     refine k56 _ _ ?_
     refine wp_region_lit ?_
     refine L (r_mv Z rfl) Z rfl ?_; clear Z az; intro az Z
     refine L (r_mv Z rfl) Z rfl ?_; clear Z az; intro az Z
     refine L (r_mv Z rfl) Z rfl ?_; clear Z az; intro az Z
     refine L (r_ia (k := i) (size := 5) Tryz.underlying22 Tryz.sizeOf43 Z rfl rfl rfl hk39 hA43) Z rfl ?_; clear Z az; intro az Z
     have O115 : Only NoF w36 w65 := (Only.trans' O61 o66)
     refine L (r_ldA Tryz.isAgg43 Tryz.sizeOf43 Z rfl (E44 _ O115) rfl) Z rfl ?_; clear Z az; intro az Z
     obtain ⟨A116, w117, hw, hA, r118, o119⟩ := Row.made (w := w65) KN0 (e := 43) ([m40] : List NM) (by simp only [List.length_cons, List.length_nil]; unfold maxLen; omega)
     refine L (r_bs (z := .agg #[.int .i64 (0), .int .i64 (0), .int .i64 (0), .slice none (0) 0, strV ([])]) (size := 5) (vs := [(0, .agg #[.int .i64 (m40.h), .int .i64 (m40.n), .int .i64 (m40.d), .slice m40.A (m40.l.length) m40.c, strV (m40.s)])]) (cs := List.flatMap KN0.cells [m40]) Tryz.underlying22 Tryz.sizeOf43 Tryz.zeroValue43 rfl (Fr.evalps Z rfl) (by kernel_rfl)) Z rfl ?_
     rw [← hw, ← hA]; clear Z az; intro az Z
     clear hw hA
     have ok120 : ∀ zq ∈ ([m40] : List NM), KN0.ok zq := by intro zq hx; simp only [List.mem_cons, List.not_mem_nil, or_false] at hx; rcases hx with rfl <;> first | exact trivial
     have r121 := (ow_k (ow_k (ow_k (ow_k (ow_k rO o37) o50) o59) o66) o119)
     have h122 := SliceOf.pl (Row.own KN0 r118 ok120)
     have hb130 : (List.length (O) + List.length ([m40])) * 64 ≤ 140737488355328 := by (exact by64 hOl hi hl (by simp only [List.length_append, List.length_cons, List.length_nil, Nat.add_assoc]; exact Nat.add_le_add_left (by decide) _))
     have O131 : Only NoF w11 w117 := (Only.trans' (Only.trans' (Only.trans' (Only.trans' (Only.trans' o27 o37) o50) o59) o66) o119)
     obtain ⟨A123, c124, w125, hr126, r127, o128, al129⟩ := Row.app (P := Tryz.prog) (l := O) (l2 := [m40]) KN0 elemNote r121 h122 hb130 (by unfold maxLen; omega) (size_only O131)
     refine L (r_app hr126 Z rfl rfl) Z rfl ?_; clear Z az; intro az Z
     have ok132 : ∀ zq ∈ (O ++ [m40]), KN0.ok zq := (fun x hx => (List.mem_append.1 hx).elim ((fun _ _ => trivial) x) ((Row.oks KN0 h122) x))
     have h133 := Row.own KN0 r127 ok132
     refine L (r_as Z rfl) Z rfl ?_; clear Z az; intro az Z
     refine k33 _ _ ?_
     refine wp_region_lit ?_
     refine L (r_mv Z rfl) Z rfl ?_; clear Z az; intro az Z
     have i134 : I64 (((i : Int) + 1)) := by unfold I64; omega
     refine L (r_addI (r := ((i : Int) + 1)) Z rfl rfl rfl i134) Z rfl ?_; clear Z az; intro az Z
     refine L (r_as Z rfl) Z rfl ?_; clear Z az; intro az Z
     have O135 : Only NoF w11 w125 := (o_sg O131 o128 (Nat.le_refl _) (ownF_ge rO))
     exact ⟨_, (by omega), i + 1, (O ++ [m40]), d, A123, c124, rfl, Z.cut ⟨rfl, rfl, rfl, rfl, rfl, trivial⟩, (by omega), (ps_no hm41 hc67 hO), (tk_step hns hm41 hc51), (by simp only [List.length_append, List.length_cons, List.length_nil]; omega), (ps_mem hOk (List.mem_of_getElem? hm41)), O135, r127⟩
  ·
   have p136 := of_decide_eq_false hc31
   refine wp_exit ?_
   refine th_exit ?_
   refine th_exit ?_
   refine ib_hit ?_
   refine k24 _ _ (wp_seq_k fun _ k137 => ?_)
   refine wp_seq_k fun _ k138 => wp_region_lit ?_
   refine L (r_mv Z rfl) Z rfl ?_; clear Z az; intro az Z
   refine L (r_not Z rfl) Z rfl ?_; clear Z az; intro az Z
   refine k138 _ _ ?_
   refine br Z rfl (fun hc139 => ?_) (fun hc139 => ?_)
   ·
    have q140 : d = false := (nt_t hc139)
    refine wp_region_lit ?_
    refine L (r_mv Z rfl) Z rfl ?_; clear Z az; intro az Z
    have B141 := (Blk.k (Blk.k B5 o12) o27)
    refine L (r_ldA Tryz.isAgg43 Tryz.sizeOf43 Z rfl (Blk.ca B141) rfl) Z rfl ?_; clear Z az; intro az Z
    obtain ⟨A142, w143, hw, hA, r144, o145⟩ := Row.made (w := w26) KN0 (e := 43) ([x] : List NM) (by simp only [List.length_cons, List.length_nil]; unfold maxLen; omega)
    refine L (r_bs (z := .agg #[.int .i64 (0), .int .i64 (0), .int .i64 (0), .slice none (0) 0, strV ([])]) (size := 5) (vs := [(0, .agg #[.int .i64 (x.h), .int .i64 (x.n), .int .i64 (x.d), .slice x.A (x.l.length) x.c, strV (x.s)])]) (cs := List.flatMap KN0.cells [x]) Tryz.underlying22 Tryz.sizeOf43 Tryz.zeroValue43 rfl (Fr.evalps Z rfl) (by kernel_rfl)) Z rfl ?_
    rw [← hw, ← hA]; clear Z az; intro az Z
    clear hw hA
    have ok146 : ∀ zq ∈ ([x] : List NM), KN0.ok zq := by intro zq hx; simp only [List.mem_cons, List.not_mem_nil, or_false] at hx; rcases hx with rfl <;> first | exact trivial
    have r147 := (ow_k rO o145)
    have h148 := SliceOf.pl (Row.own KN0 r144 ok146)
    have hb156 : (List.length (O) + List.length ([x])) * 64 ≤ 140737488355328 := by (exact by64 hOl hi hl (by simp only [List.length_append, List.length_cons, List.length_nil, Nat.add_assoc]; exact Nat.add_le_add_left (by decide) _))
    have O157 : Only NoF w11 w143 := (Only.trans' o27 o145)
    obtain ⟨A149, c150, w151, hr152, r153, o154, al155⟩ := Row.app (P := Tryz.prog) (l := O) (l2 := [x]) KN0 elemNote r147 h148 hb156 (by unfold maxLen; omega) (size_only O157)
    refine L (r_app hr152 Z rfl rfl) Z rfl ?_; clear Z az; intro az Z
    have ok158 : ∀ zq ∈ (O ++ [x]), KN0.ok zq := (fun x hx => (List.mem_append.1 hx).elim ((fun _ _ => trivial) x) ((Row.oks KN0 h148) x))
    have h159 := Row.own KN0 r153 ok158
    refine L (r_as Z rfl) Z rfl ?_; clear Z az; intro az Z
    refine k137 _ _ (wp_seq_k fun _ k160 => wp_region_lit ?_)
    refine L (r_mv Z rfl) Z rfl ?_; clear Z az; intro az Z
    refine L (r_as Z rfl) Z rfl ?_; clear Z az; intro az Z
    refine k160 _ _ ?_
    refine wp_ret ?_
    show bodyPost _ _ _ .ret _ _
    refine ret_of (vs := [.slice A149 (((O ++ [x])).length) c150]) Z Tryz.results35 ⟨rfl, trivial⟩ ?_
    have O161 : Only NoF w w11 := (Only.trans' o4 o12)
    have O162 : Only NoF w w151 := (o_sg (Only.trans' (Only.trans' (Only.trans' o4 o12) o27) o145) o154 (size_only O161) (ownF_ge rO))
    rw [List.take_of_length_le (by omega)] at hO hns
    have hmm : ∀ y ∈ (O ++ [x]), y ∈ l ∨ y = x := (ps_mem1 hOk)
    exact ⟨_, _, (O ++ [x]), rfl, by rw [if_pos (nt_f hc13)]; exact (ps_end1 hO hns hc139), SliceOf.sup (Row.own KN0 r153 (fun _ _ => trivial)) (fun k hk => hS k (Nat.le_trans (size_only O161) hk)), OkNs.k (fun y hy => (hmm y hy).elim (fun h => hn y h) (fun h => by rw [h]; exact hx)) O162, hmm, O162⟩
   ·
    have q163 : d = true := (nt_f hc139)
    refine wp_skip ?_
    refine k137 _ _ (wp_seq_k fun _ k164 => wp_region_lit ?_)
    refine L (r_mv Z rfl) Z rfl ?_; clear Z az; intro az Z
    refine L (r_as Z rfl) Z rfl ?_; clear Z az; intro az Z
    refine k164 _ _ ?_
    refine wp_ret ?_
    show bodyPost _ _ _ .ret _ _
    refine ret_of (vs := [.slice Ao (O.length) co]) Z Tryz.results35 ⟨rfl, trivial⟩ ?_
    have O165 : Only NoF w w26 := (Only.trans' (Only.trans' o4 o12) o27)
    rw [List.take_of_length_le (by omega)] at hO hns
    have hmm : ∀ y ∈ O, y ∈ l ∨ y = x := hOk
    have O166 : Only NoF w w11 := (Only.trans' o4 o12)
    exact ⟨_, _, O, rfl, by rw [if_pos (nt_f hc13)]; exact (ps_end2 hO hns hc139), SliceOf.sup (Row.own KN0 rO (fun _ _ => trivial)) (fun k hk => hS k (Nat.le_trans (size_only O166) hk)), OkNs.k (fun y hy => (hmm y hy).elim (fun h => hn y h) (fun h => by rw [h]; exact hx)) O165, hmm, O165⟩
theorem rJoin_v_ {w : World} {l l2 : List NM} {A1 A2 : Option Addr} {c1 c2 : Nat} (t1 : NtV w (.slice A1 l.length c1) l) (t2 : NtV w (.slice A2 l2.length c2) l2) (hl : l.length ≤ 400000) (hl2 : l2.length ≤ 400000) : Calls Tryz.prog 11 [.slice A1 l.length c1, .slice A2 l2.length c2].toArray w (JnTo (l ++ l2) (joinN (l ++ l2)) w) := by
 refine calls_start Tryz.func11 rfl rfl ?_
 intro az Z
 rw [Tryz.ntmps11] at Z
 refine wp_seq_k fun _ k1 => wp_region_lit ?_
 refine L (r_as Z rfl) Z rfl ?_; clear Z az; intro az Z
 refine k1 _ _ (wp_seq_k fun _ k2 => wp_region_lit ?_)
 obtain ⟨A3, w4, hw, hA, r5, o6⟩ := made0 (w := w) (e := 43) (size := 5)
 refine L (r_bs0 Tryz.underlying22 Tryz.sizeOf43) Z rfl ?_
 rw [← hw, ← hA]; clear Z az; intro az Z
 clear hw hA
 refine L (r_as Z rfl) Z rfl ?_; clear Z az; intro az Z
 refine k2 _ _ (wp_seq_k fun _ k7 => ?_)
 refine wp_seq_k fun _ k8 => wp_region_lit ?_
 refine L (r_as Z rfl) Z rfl ?_; clear Z az; intro az Z
 refine k8 _ _ ?_
 refine wp_block ?_
 refine wp_loop_m (fun mz az W => ∃ i : Nat, ∃ P : List NM, ∃ Ap : Option Addr, ∃ cp : Nat, mz = l.length - i ∧ Fr 34 [(0, .slice A1 (l.length) c1), (1, .slice A2 (l2.length) c2), (6, .int .i64 ((i : Int))), (5, .slice Ap (P.length) cp)] az ∧ (i ≤ l.length) ∧ (P.map ns = joinN (l.take i)) ∧ (∀ y ∈ P, y ∈ l ++ l2) ∧ Only NoF w4 W ∧ SliceOf (geB w.heap.size) 5 KN0.R W (.slice Ap P.length cp) P ∧ OkNs AllB W P) ?_ ?_
 ·
  exact ⟨_, 0, [], A3, 0, rfl, Z.cut ⟨rfl, rfl, rfl, rfl, trivial⟩, Nat.zero_le _, rfl, (fun y hy => by cases hy), (Only.refl NoF w4), (SliceOf.sup (Row.own KN0 r5 (fun _ _ => trivial)) (fun k hk => Nat.le_trans (Nat.le_refl _) hk)), OkNs.nil⟩
 clear Z az
 rintro mz az w9 ⟨i, P, Ap, cp, hm11, Z, hii, hP, hPm, o10, hT, hTn⟩
 have hPl : P.length ≤ 1000000 := pl_1 hP hl hl2
 refine wp_seq_k fun _ k12 => ?_
 refine wp_seq_k fun _ k13 => wp_region_lit ?_
 refine L (r_mv Z rfl) Z rfl ?_; clear Z az; intro az Z
 refine L (r_mv Z rfl) Z rfl ?_; clear Z az; intro az Z
 refine L (r_lenL Tryz.underlying22 Z rfl) Z rfl ?_; clear Z az; intro az Z
 refine L (r_ltI Z rfl rfl) Z rfl ?_; clear Z az; intro az Z
 refine k13 _ _ ?_
 refine br Z rfl (fun hc14 => ?_) (fun hc14 => ?_)
 ·
  have p15 := of_decide_eq_true hc14
  refine wp_skip ?_
  refine k12 _ _ (wp_seq_k fun _ k16 => ?_)
  refine wp_block ?_
  refine wp_region_lit ?_
  refine L (r_mv Z rfl) Z rfl ?_; clear Z az; intro az Z
  refine L (r_mv Z rfl) Z rfl ?_; clear Z az; intro az Z
  refine L (r_mv Z rfl) Z rfl ?_; clear Z az; intro az Z
  have hk17 : i < (l).length := by omega
  have O23 : Only NoF w w9 := (Only.trans' o6 o10)
  have h24 := (SliceOf.kp t1.1 O23 (fun _ _ h => h) (fun _ _ _ _ h => h))
  obtain ⟨m18, hm19, ok20, hA21⟩ := Row.el KN0 h24 hk17
  have E22 : ∀ W, Only NoF w9 W → CA W (eA A1 5 (i)) [.int .i64 (m18.h), .int .i64 (m18.n), .int .i64 (m18.d), .slice m18.A (m18.l.length) m18.c, strV (m18.s)] := Row.ce KN0 h24 hm19 rfl
  refine L (r_ia (k := i) (size := 5) Tryz.underlying22 Tryz.sizeOf43 Z rfl rfl rfl hk17 hA21) Z rfl ?_; clear Z az; intro az Z
  refine L (r_ldA Tryz.isAgg43 Tryz.sizeOf43 Z rfl (E22 _ (Only.refl NoF w9)) rfl) Z rfl ?_; clear Z az; intro az Z
  have h33 := (SliceOf.kp (t1.2 _ (List.mem_of_getElem? hm19)).2.2.2.1 O23 (fun _ _ h => h) (fun _ _ _ _ h => h))
  have hC34 := put39_v_ (S := geB w.heap.size) (SliceOf.kp hT (Only.refl NoF w9) (fun _ _ h => h) (fun _ _ _ _ h => h)) (hTn.k (Only.refl NoF w9)) (fun k hk => Nat.le_trans (size_only O23) hk) (by omega) (x := m18) (okN.k (t1.2 _ (List.mem_of_getElem? hm19)) O23) (by rw [hP]; exact join_sorted _) (joined_right hP)
  refine LC Z rfl rfl Tryz.call35 (hC34) rfl ?_
  rintro e w35 ⟨A25, c26, P27, rfl, hP28, hS29, hN30, hM31, o32⟩; refine ⟨_, rfl, ?_⟩
  clear Z az; intro az Z
  refine L (r_as Z rfl) Z rfl ?_; clear Z az; intro az Z
  refine k16 _ _ ?_
  refine wp_region_lit ?_
  refine L (r_mv Z rfl) Z rfl ?_; clear Z az; intro az Z
  have i36 : I64 (((i : Int) + 1)) := by unfold I64; omega
  refine L (r_addI (r := ((i : Int) + 1)) Z rfl rfl rfl i36) Z rfl ?_; clear Z az; intro az Z
  refine L (r_as Z rfl) Z rfl ?_; clear Z az; intro az Z
  have O37 : Only NoF w4 w35 := (Only.trans' o10 o32)
  exact ⟨_, (by omega), i + 1, P27, A25, c26, rfl, Z.cut ⟨rfl, rfl, rfl, rfl, trivial⟩, (by omega), (join_step hm19 hP hP28), (fun y hy => (hM31 y hy).elim (hPm y) (fun h => by rw [h]; exact List.mem_append_left _ (List.mem_of_getElem? hm19))), O37, (SliceOf.kp hS29 (Only.refl NoF w35) (fun _ _ h => h) (fun _ _ _ _ h => h)), (OkNs.k hN30 (Only.refl NoF w35))⟩
 ·
  have p38 := of_decide_eq_false hc14
  refine wp_exit ?_
  refine th_exit ?_
  refine th_exit ?_
  refine ib_hit ?_
  refine k7 _ _ (wp_seq_k fun _ k39 => ?_)
  refine wp_seq_k fun _ k40 => wp_region_lit ?_
  refine L (r_as Z rfl) Z rfl ?_; clear Z az; intro az Z
  refine k40 _ _ ?_
  refine wp_block ?_
  refine wp_loop_m (fun mz az W => ∃ j : Nat, ∃ P : List NM, ∃ Ap : Option Addr, ∃ cp : Nat, mz = l2.length - j ∧ Fr 34 [(1, .slice A2 (l2.length) c2), (7, .int .i64 ((j : Int))), (5, .slice Ap (P.length) cp)] az ∧ (j ≤ l2.length) ∧ (P.map ns = joinN (l ++ l2.take j)) ∧ (∀ y ∈ P, y ∈ l ++ l2) ∧ Only NoF w9 W ∧ SliceOf (geB w.heap.size) 5 KN0.R W (.slice Ap P.length cp) P ∧ OkNs AllB W P) ?_ ?_
  ·
   exact ⟨_, 0, P, Ap, cp, rfl, Z.cut ⟨rfl, rfl, rfl, trivial⟩, Nat.zero_le _, (by rw [List.take_of_length_le (by omega)] at hP; rw [hP, List.take_zero, List.append_nil]), hPm, (Only.refl NoF w9), (SliceOf.kp hT (Only.refl NoF w9) (fun _ _ h => h) (fun _ _ _ _ h => h)), (hTn.k (Only.refl NoF w9))⟩
  clear Z az
  rintro mz az w41 ⟨j, P, Ap, cp, hm43, Z, hij, hP, hPm, o42, hT, hTn⟩
  have hPl : P.length ≤ 1000000 := pl_2 hP hl hl2
  refine wp_seq_k fun _ k44 => ?_
  refine wp_seq_k fun _ k45 => wp_region_lit ?_
  refine L (r_mv Z rfl) Z rfl ?_; clear Z az; intro az Z
  refine L (r_mv Z rfl) Z rfl ?_; clear Z az; intro az Z
  refine L (r_lenL Tryz.underlying22 Z rfl) Z rfl ?_; clear Z az; intro az Z
  refine L (r_ltI Z rfl rfl) Z rfl ?_; clear Z az; intro az Z
  refine k45 _ _ ?_
  refine br Z rfl (fun hc46 => ?_) (fun hc46 => ?_)
  ·
   have p47 := of_decide_eq_true hc46
   refine wp_skip ?_
   refine k44 _ _ (wp_seq_k fun _ k48 => ?_)
   refine wp_block ?_
   refine wp_region_lit ?_
   refine L (r_mv Z rfl) Z rfl ?_; clear Z az; intro az Z
   refine L (r_mv Z rfl) Z rfl ?_; clear Z az; intro az Z
   refine L (r_mv Z rfl) Z rfl ?_; clear Z az; intro az Z
   have hk49 : j < (l2).length := by omega
   have O55 : Only NoF w w41 := (Only.trans' (Only.trans' o6 o10) o42)
   have h56 := (SliceOf.kp t2.1 O55 (fun _ _ h => h) (fun _ _ _ _ h => h))
   obtain ⟨m50, hm51, ok52, hA53⟩ := Row.el KN0 h56 hk49
   have E54 : ∀ W, Only NoF w41 W → CA W (eA A2 5 (j)) [.int .i64 (m50.h), .int .i64 (m50.n), .int .i64 (m50.d), .slice m50.A (m50.l.length) m50.c, strV (m50.s)] := Row.ce KN0 h56 hm51 rfl
   refine L (r_ia (k := j) (size := 5) Tryz.underlying22 Tryz.sizeOf43 Z rfl rfl rfl hk49 hA53) Z rfl ?_; clear Z az; intro az Z
   refine L (r_ldA Tryz.isAgg43 Tryz.sizeOf43 Z rfl (E54 _ (Only.refl NoF w41)) rfl) Z rfl ?_; clear Z az; intro az Z
   have h65 := (SliceOf.kp (t2.2 _ (List.mem_of_getElem? hm51)).2.2.2.1 O55 (fun _ _ h => h) (fun _ _ _ _ h => h))
   have hC66 := put39_v_ (S := geB w.heap.size) (SliceOf.kp hT (Only.refl NoF w41) (fun _ _ h => h) (fun _ _ _ _ h => h)) (hTn.k (Only.refl NoF w41)) (fun k hk => Nat.le_trans (size_only O55) hk) (by omega) (x := m50) (okN.k (t2.2 _ (List.mem_of_getElem? hm51)) O55) (by rw [hP]; exact join_sorted _) (joined_right hP)
   refine LC Z rfl rfl Tryz.call35 (hC66) rfl ?_
   rintro e w67 ⟨A57, c58, P59, rfl, hP60, hS61, hN62, hM63, o64⟩; refine ⟨_, rfl, ?_⟩
   clear Z az; intro az Z
   refine L (r_as Z rfl) Z rfl ?_; clear Z az; intro az Z
   refine k48 _ _ ?_
   refine wp_region_lit ?_
   refine L (r_mv Z rfl) Z rfl ?_; clear Z az; intro az Z
   have i68 : I64 (((j : Int) + 1)) := by unfold I64; omega
   refine L (r_addI (r := ((j : Int) + 1)) Z rfl rfl rfl i68) Z rfl ?_; clear Z az; intro az Z
   refine L (r_as Z rfl) Z rfl ?_; clear Z az; intro az Z
   have O69 : Only NoF w9 w67 := (Only.trans' o42 o64)
   exact ⟨_, (by omega), j + 1, P59, A57, c58, rfl, Z.cut ⟨rfl, rfl, rfl, trivial⟩, (by omega), (join_step2 hm51 hP hP60), (fun y hy => (hM63 y hy).elim (hPm y) (fun h => by rw [h]; exact List.mem_append_right _ (List.mem_of_getElem? hm51))), O69, (SliceOf.kp hS61 (Only.refl NoF w67) (fun _ _ h => h) (fun _ _ _ _ h => h)), (OkNs.k hN62 (Only.refl NoF w67))⟩
  ·
   have p70 := of_decide_eq_false hc46
   refine wp_exit ?_
   refine th_exit ?_
   refine th_exit ?_
   refine ib_hit ?_
   refine k39 _ _ (wp_seq_k fun _ k71 => wp_region_lit ?_)
   refine L (r_mv Z rfl) Z rfl ?_; clear Z az; intro az Z
   refine L (r_as Z rfl) Z rfl ?_; clear Z az; intro az Z
   refine k71 _ _ ?_
   refine wp_ret ?_
   show bodyPost _ _ _ .ret _ _
   refine ret_of (vs := [.slice Ap (P.length) cp]) Z Tryz.results11 ⟨rfl, trivial⟩ ?_
   have O72 : Only NoF w w41 := (Only.trans' (Only.trans' o6 o10) o42)
   exact ⟨_, _, P, rfl, by rw [List.take_of_length_le (by omega)] at hP; exact hP, SliceOf.kp hT (Only.refl NoF w41) (fun _ _ h => h) (fun _ _ _ _ h => h), hTn.k (Only.refl NoF w41), hPm, O72⟩
end
section
open Go.RowKit
def hst (O : List Int) (m : NM) : List Int := match O.getLast? with
 | none => O ++ [m.h]
 | some z => if z = m.h then O else O ++ [m.h]
def hseq (J : List NM) : List Int := J.foldl hst []
section
variable {J l P : List NM} {O : List Int} {i : Nat} {m : NM} {h z : Int}
theorem hseq_step (hm : J[i]? = some m) : hseq (J.take (i + 1)) = hst (hseq (J.take i)) m := by
 unfold hseq
 rw [take_succ_get hm, List.foldl_append]; rfl
theorem hs_first (hm : J[i]? = some m) (h0 : O.length = 0) (hO : O = hseq (J.take i)) : O ++ [m.h] = hseq (J.take (i + 1)) := by
 rw [hseq_step hm, ← hO]
 have : O = [] := List.length_eq_zero_iff.1 h0
 subst this; rfl
theorem hs_new (hm : J[i]? = some m) (hz : O[O.length - 1]? = some z) (h : (!decide (z = m.h)) = true) (hO : O = hseq (J.take i)) : O ++ [m.h] = hseq (J.take (i + 1)) := by
 rw [hseq_step hm, ← hO]
 unfold hst
 rw [List.getLast?_eq_getElem?, hz]
 have : ¬ z = m.h := by simpa using h
 simp [this]
theorem hs_old (hm : J[i]? = some m) (hz : O[O.length - 1]? = some z) (h : (!decide (z = m.h)) = false) (hO : O = hseq (J.take i)) : O = hseq (J.take (i + 1)) := by
 rw [hseq_step hm, ← hO]
 unfold hst
 rw [List.getLast?_eq_getElem?, hz]
 have : z = m.h := by simpa using h
 simp [this]
theorem hseq_map (J : List NM) : hseq (J.map ns) = hseq J := by unfold hseq; rw [List.foldl_map]; rfl
theorem hseq_all (hU : J.Pairwise fun a b => a.h ≤ b.h) : ∀ i, i ≤ J.length → (hseq (J.take i)).Pairwise (· < ·) ∧ (∀ z, z ∈ hseq (J.take i) ↔ ∃ m ∈ J.take i, m.h = z) ∧ (hseq (J.take i)).getLast? = (J.take i).getLast?.map (·.h)
 | 0, _ => ⟨by simp [hseq], by simp [hseq], by simp [hseq]⟩
 | i + 1, hi => by
  obtain ⟨h1, h2, h3⟩ := hseq_all hU i (by omega)
  have hm : J[i]? = some (J[i]'(by omega)) := List.getElem?_eq_getElem (by omega)
  generalize J[i]'(by omega) = m at hm
  have hle : ∀ x ∈ J.take i, x.h ≤ m.h := fun x hx => by
   obtain ⟨j, hj⟩ := List.getElem?_of_mem hx
   rw [List.getElem?_take] at hj
   split at hj
   · rename_i hji
     obtain ⟨a1, a2⟩ := List.getElem?_eq_some_iff.1 hj
     obtain ⟨b1, b2⟩ := List.getElem?_eq_some_iff.1 hm
     have := List.pairwise_iff_getElem.1 hU j i a1 b1 hji
     rw [a2, b2] at this; exact this
   · cases hj
  rw [hseq_step hm, take_succ_get hm]
  unfold hst
  cases hl : (hseq (J.take i)).getLast? with
  | none =>
   have e : hseq (J.take i) = [] := List.getLast?_eq_none_iff.1 hl
   have e2 : J.take i = [] := by
    cases hJ : J.take i with
    | nil => rfl
    | cons a r =>
     have := (h2 a.h).2 ⟨a, by rw [hJ]; exact List.mem_cons_self, rfl⟩
     rw [e] at this; cases this
   show ((hseq (J.take i)) ++ [m.h]).Pairwise (· < ·) ∧ (∀ z, z ∈ hseq (J.take i) ++ [m.h] ↔ ∃ x ∈ J.take i ++ [m], x.h = z) ∧ (hseq (J.take i) ++ [m.h]).getLast? = (J.take i ++ [m]).getLast?.map (·.h)
   rw [e, e2]
   exact ⟨by simp, fun z => by simp [eq_comm], by simp⟩
  | some z =>
   have hz : ∃ p, (J.take i).getLast? = some p ∧ p.h = z := by
    rw [hl] at h3
    cases hp : (J.take i).getLast? with
    | none => rw [hp] at h3; cases h3
    | some p => rw [hp] at h3; exact ⟨p, rfl, (Option.some.inj h3).symm⟩
   obtain ⟨p, hp, hpz⟩ := hz
   have hpm := List.mem_of_getLast? hp
   have hzle : z ≤ m.h := by rw [← hpz]; exact hle p hpm
   by_cases e : z = m.h
   · simp only [e, if_true]
     refine ⟨h1, fun y => ?_, ?_⟩
     · rw [h2 y]
       constructor
       · rintro ⟨x, hx, e2⟩; exact ⟨x, List.mem_append_left _ hx, e2⟩
       · rintro ⟨x, hx, e2⟩
         rcases List.mem_append.1 hx with hx | hx
         · exact ⟨x, hx, e2⟩
         · rw [List.mem_singleton.1 hx] at e2
           exact ⟨p, hpm, by omega⟩
     · rw [hl, List.getLast?_append]; simp [e]
   · simp only [e, if_false]
     refine ⟨List.pairwise_append.2 ⟨h1, by simp, fun a ha b hb => ?_⟩, fun y => ?_, ?_⟩
     · rw [List.mem_singleton.1 hb]
       obtain ⟨x, hx, e2⟩ := (h2 a).1 ha
       have : a ≤ z := by
        obtain ⟨q, hq⟩ := List.getElem?_of_mem ha
        rw [List.getLast?_eq_getElem?] at hl
        obtain ⟨q1, q2⟩ := List.getElem?_eq_some_iff.1 hq
        obtain ⟨l1, l2⟩ := List.getElem?_eq_some_iff.1 hl
        rcases Nat.lt_or_ge q ((hseq (J.take i)).length - 1) with h5 | h5
        · have := List.pairwise_iff_getElem.1 h1 q _ q1 l1 h5
          rw [q2, l2] at this; omega
        · have : q = (hseq (J.take i)).length - 1 := by omega
          subst this
          rw [q2] at l2; omega
       omega
     · rw [List.mem_append, List.mem_singleton, h2 y]
       constructor
       · rintro (⟨x, hx, e2⟩ | e2)
         · exact ⟨x, List.mem_append_left _ hx, e2⟩
         · exact ⟨m, List.mem_append_right _ List.mem_cons_self, e2.symm⟩
       · rintro ⟨x, hx, e2⟩
         rcases List.mem_append.1 hx with hx | hx
         · exact .inl ⟨x, hx, e2⟩
         · rw [List.mem_singleton.1 hx] at e2; exact .inr e2.symm
     · rw [List.getLast?_append, List.getLast?_append]; simp
theorem up_le (hU : UpJ J) : J.Pairwise fun a b => a.h ≤ b.h := hU
theorem hseq_asc (l : List NM) : (hseq (joinN l)).Pairwise (· < ·) := by
 have := (hseq_all (up_le (join_up l)) (joinN l).length (Nat.le_refl _)).1
 rwa [List.take_length] at this
theorem hseq_mem (l : List NM) (z : Int) : z ∈ hseq (joinN l) ↔ ∃ m ∈ joinN l, m.h = z := by
 have := (hseq_all (up_le (join_up l)) (joinN l).length (Nat.le_refl _)).2.1 z
 rwa [List.take_length] at this
theorem hseq_hou (l : List NM) : hseq (joinN l) = (houN (joinN l)).map (·.h) := by
 refine asc_uniq (hseq_asc l) (List.pairwise_map.2 (hou_asc' (join_up l))) fun z => ?_
 rw [hseq_mem, List.mem_map]
 constructor
 · rintro ⟨m, hm, rfl⟩
   refine ⟨houOf (joinN l) m.h, (hou_iff (join_up l) _).2 ⟨rfl, ?_⟩, rfl⟩
   exact List.ne_nil_of_mem (of_mem.2 ⟨hm, rfl⟩)
 · rintro ⟨y, hy, rfl⟩
   have := ((hou_iff (join_up l) y).1 hy).2
   obtain ⟨m, hm⟩ := List.exists_mem_of_ne_nil _ this
   exact ⟨m, (of_mem.1 hm).1, (of_mem.1 hm).2⟩
theorem hseq_forks (l : List NM) : (hseq (joinN l)).filter (fun z => hasI (forksN (joinN l)) z) = forksN (joinN l) := by
 refine asc_uniq ((hseq_asc l).filter _) (forks_asc (join_up l)) fun z => ?_
 rw [List.mem_filter]
 unfold hasI
 rw [decide_eq_true_eq]
 refine ⟨fun h => h.2, fun h => ⟨?_, h⟩⟩
 have h1 := (forks_iff (join_up l) z).1 h
 rw [hseq_mem]
 cases e : ofN (joinN l) z with
 | nil => rw [e] at h1; cases h1
 | cons a r =>
  have := of_mem.1 (show a ∈ ofN (joinN l) z by rw [e]; exact List.mem_cons_self)
  exact ⟨a, this⟩
theorem fk_yes {a b : NM} {k : Nat} (ha : l[i]? = some a) (hb : l[k]? = some b) (h0 : (decide (a.h = h) && convicts a b) = true) : hasI (forksN (joinN l)) h = true := by
 rw [Bool.and_eq_true, decide_eq_true_eq] at h0
 exact decide_eq_true ((forks_iff (join_up l) h).2 (fork_pair.2 ⟨a, b, List.mem_of_getElem? ha, List.mem_of_getElem? hb, h0.1, h0.2⟩))
theorem fk_no (hF : FirstIs l h 400) : hasI (forksN (joinN l)) h = false := by
 rw [first_forks hF]; rfl
theorem fl_yes {N : List Int} {p : Int → Bool} (hz : N[i]? = some z) (h : p z = true) (hO : O = (N.take i).filter p) : O ++ [z] = (N.take (i + 1)).filter p := by
 rw [take_succ_get hz, List.filter_append, ← hO]; simp [h]
theorem fl_no {N : List Int} {p : Int → Bool} (hz : N[i]? = some z) (h : p z = false) (hO : O = (N.take i).filter p) : O = (N.take (i + 1)).filter p := by
 rw [take_succ_get hz, List.filter_append, ← hO]; simp [h]
theorem hseq_len (l : List NM) : (hseq (joinN l)).length ≤ 400 := by
 refine Nat.le_trans (sub_len (b := (List.range 400).map fun (q : Nat) => (q : Int)) ((hseq_asc l).imp fun {a b} h e => by omega) fun z hz => ?_) (by simp)
 obtain ⟨m, hm, rfl⟩ := (hseq_mem l z).1 hz
 have := right_bnd (join_good l m hm).1
 exact List.mem_map.2 ⟨m.h.toNat, List.mem_range.2 (by omega), by omega⟩
theorem hseq_ok (l : List NM) : ∀ z ∈ hseq (joinN l), KInt.ok z := fun z hz => by
 obtain ⟨m, hm, rfl⟩ := (hseq_mem l z).1 hz
 have := right_bnd (join_good l m hm).1
 show I64 m.h
 unfold I64; omega
end
theorem rJoin1_v {w : World} {l : List NM} {A : Option Addr} {c : Nat} (t : NtV w (.slice A l.length c) l) (hl : l.length ≤ 400000) : Calls Tryz.prog 11 #[.slice A l.length c, .slice none 0 0] w (JnTo l (joinN l) w) := by
 have h := rJoin_v_ (l2 := []) t (NtV.nil w) hl (by simp)
 rw [List.append_nil] at h
 exact h
theorem hseq_okP {l P : List NM} (hP : P.map ns = joinN l) (q : Nat) : ∀ z ∈ hseq (P.take q), KInt.ok z := fun z hz => by
 have h0 : (P.take q).map ns = (joinN l).take q := by rw [List.map_take, hP]
 rw [← hseq_map, h0] at hz
 obtain ⟨m, hm, rfl⟩ : ∃ m ∈ (joinN l).take q, m.h = z := by
  rcases Nat.lt_or_ge q (joinN l).length with h | h
  · exact ((hseq_all (up_le (join_up l)) q (by omega)).2.1 z).1 hz
  · rw [List.take_of_length_le h] at hz ⊢
    exact (hseq_mem l z).1 hz
 have := right_bnd (join_good l m (List.mem_of_mem_take hm)).1
 show I64 m.h
 unfold I64; omega
theorem rHouses_v_ {w : World} {l : List NM} {A : Option Addr} {c : Nat} (t : NtV w (.slice A l.length c) l) (hl : l.length ≤ 400000) : Calls Tryz.prog 37 [.slice A l.length c].toArray w (IOut (hseq (joinN l)) w) := by
 refine calls_start Tryz.func37 rfl rfl ?_
 intro az Z
 rw [Tryz.ntmps37] at Z
 refine wp_seq_k fun _ k1 => wp_region_lit ?_
 refine L (r_as Z rfl) Z rfl ?_; clear Z az; intro az Z
 refine k1 _ _ (wp_seq_k fun _ k2 => wp_region_lit ?_)
 obtain ⟨A3, w4, hw, hA, r5, o6⟩ := made0 (w := w) (e := 3) (size := 1)
 refine L (r_bs0 Tryz.underlying30 Tryz.sizeOf3) Z rfl ?_
 rw [← hw, ← hA]; clear Z az; intro az Z
 clear hw hA
 refine L (r_as Z rfl) Z rfl ?_; clear Z az; intro az Z
 refine k2 _ _ (wp_seq_k fun _ k7 => wp_region_lit ?_)
 refine L (r_mv Z rfl) Z rfl ?_; clear Z az; intro az Z
 have hC16 := rJoin1_v (NtV.k t o6) (by omega)
 refine LC Z rfl rfl Tryz.call11 (hC16) rfl ?_
 rintro e w17 ⟨A8, c9, P10, rfl, hP11, hS12, hN13, hM14, o15⟩; refine ⟨_, rfl, ?_⟩
 clear Z az; intro az Z
 have nt18 : NtV w17 (.slice A8 (P10.length) c9) P10 := ⟨SliceOf.pl hS12, hN13⟩
 have hrt := joined_right hP11
 have hPl : P10.length ≤ 400000 := ns_len_le hP11 (Nat.le_trans (joinN_le _) hl)
 refine L (r_as Z rfl) Z rfl ?_; clear Z az; intro az Z
 refine k7 _ _ (wp_seq_k fun _ k19 => ?_)
 refine wp_seq_k fun _ k20 => wp_region_lit ?_
 refine L (r_as Z rfl) Z rfl ?_; clear Z az; intro az Z
 refine k20 _ _ ?_
 refine wp_block ?_
 have hS21 := SliceOf.lt2 (K := KN0) hS12
 have hq22 := ownF_lt r5
 have hq : ∀ q, ∀ z ∈ hseq (P10.take q), KInt.ok z := fun q z hz => hseq_okP hP11 q z hz
 refine wp_loop_m (fun mz az W => ∃ i : Nat, ∃ O : List Int, ∃ Ao : Option Addr, ∃ co : Nat, mz = P10.length - i ∧ Fr 42 [(4, .slice A8 (P10.length) c9), (5, .int .i64 ((i : Int))), (3, .slice Ao (O.length) co)] az ∧ (i ≤ P10.length) ∧ (O = hseq (List.take i P10)) ∧ (O.length ≤ i) ∧ (∀ k, ownF (.slice Ao O.length co) k → ¬ (geB w4.heap.size k ∧ k < w17.heap.size)) ∧ Only NoF w W ∧ W.ownsRow w.heap.size 3 1 (.slice Ao O.length co) O.length (List.flatMap KInt.cells O) ∧ SliceOf (fun k => geB w4.heap.size k ∧ k < w17.heap.size) 5 KN0.R W (.slice A8 (P10.length) c9) P10 ∧ w17.heap.size ≤ W.heap.size) ?_ ?_
 ·
  have O23 : Only NoF w w17 := (Only.trans' o6 o15)
  have r24 := (ow_k r5 o15)
  exact ⟨_, 0, [], A3, 0, rfl, Z.cut ⟨rfl, rfl, rfl, trivial⟩, Nat.zero_le _, rfl, Nat.le_refl _, (fun k h hk => absurd (hq22 k h) (Nat.not_lt.2 hk.1)), O23, r24, hS21, (Nat.le_refl _)⟩
 clear Z az
 rintro mz az w25 ⟨i, O, Ao, co, hm27, Z, hi, hO, hOl, hsep, o26, rO, hNs, hge8⟩
 have hOk0 : ∀ z ∈ O, KInt.ok z := fun z hz => hq _ _ (by rw [← hO]; exact hz)
 refine wp_seq_k fun _ k28 => ?_
 refine wp_seq_k fun _ k29 => wp_region_lit ?_
 refine L (r_mv Z rfl) Z rfl ?_; clear Z az; intro az Z
 refine L (r_mv Z rfl) Z rfl ?_; clear Z az; intro az Z
 refine L (r_lenL Tryz.underlying22 Z rfl) Z rfl ?_; clear Z az; intro az Z
 refine L (r_ltI Z rfl rfl) Z rfl ?_; clear Z az; intro az Z
 refine k29 _ _ ?_
 refine br Z rfl (fun hc30 => ?_) (fun hc30 => ?_)
 ·
  have p31 := of_decide_eq_true hc30
  refine wp_skip ?_
  refine k28 _ _ (wp_seq_k fun _ k32 => ?_)
  refine wp_block ?_
  refine wp_seq_k fun _ k33 => ?_
  rcases Nat.eq_zero_or_pos O.length with hz0 | hz0
  · skip
    refine reg_q [(true, 0), (true, 1), (true, 2), (true, 3), (true, 4), (true, 5), (true, 6), (true, 7), (true, 8), (true, 9), (true, 10), (true, 11), (true, 12), (true, 13), (true, 14), (true, 15), (true, 16), (true, 17)] (by kernel_rfl) (by kernel_rfl) (fun _ _ _ _ _ h => h) fun w34 o35 => ?_
    refine M (r_mv Z rfl) Z rfl rfl ?_; clear Z az; intro az Z
    refine M (r_lenL Tryz.underlying30 Z rfl) Z rfl rfl ?_; clear Z az; intro az Z
    refine M ((r_cast (b := true) (r_eqI Z rfl rfl) (decide_eq_true (by omega)))) Z rfl rfl ?_; clear Z az; intro az Z
    refine M (r_mv Z rfl) Z rfl rfl ?_; clear Z az; intro az Z
    refine MF Z rfl rfl (by exact rfl) rfl rfl ?_; clear Z az; intro az Z
    refine MF Z rfl rfl (by exact rfl) rfl rfl ?_; clear Z az; intro az Z
    refine MF Z rfl rfl (by exact rfl) rfl rfl ?_; clear Z az; intro az Z
    refine MF Z rfl rfl (by exact rfl) rfl rfl ?_; clear Z az; intro az Z
    refine MF Z rfl rfl (by exact rfl) rfl rfl ?_; clear Z az; intro az Z
    refine MF Z rfl rfl (by exact rfl) rfl rfl ?_; clear Z az; intro az Z
    refine MF Z rfl rfl (by exact rfl) rfl rfl ?_; clear Z az; intro az Z
    refine MF Z rfl rfl (by exact rfl) rfl rfl ?_; clear Z az; intro az Z
    refine MF Z rfl rfl (by exact rfl) rfl rfl ?_; clear Z az; intro az Z
    refine MF Z rfl rfl (by exact rfl) rfl rfl ?_; clear Z az; intro az Z
    refine MF Z rfl rfl (by exact rfl) rfl rfl ?_; clear Z az; intro az Z
    refine MF Z rfl rfl (by exact rfl) rfl rfl ?_; clear Z az; intro az Z
    refine MF Z rfl rfl (by exact rfl) rfl rfl ?_; clear Z az; intro az Z
    refine M (r_pick Z rfl rfl rfl) Z rfl rfl ?_; clear Z az; intro az Z
    refine wpMix_nil ?_
    refine k33 _ _ ?_
    refine br_true Z rfl ?_
    refine wp_region_lit ?_
    refine L (r_mv Z rfl) Z rfl ?_; clear Z az; intro az Z
    refine L (r_mv Z rfl) Z rfl ?_; clear Z az; intro az Z
    refine L (r_mv Z rfl) Z rfl ?_; clear Z az; intro az Z
    have hk36 : i < (P10).length := by omega
    have h42 := (SliceOf.kp hNs o35 (fun _ _ h => h) (fun _ _ _ _ h => h))
    obtain ⟨m37, hm38, ok39, hA40⟩ := Row.el KN0 h42 hk36
    have E41 : ∀ W, Only NoF w34 W → CA W (eA A8 5 (i)) [.int .i64 (m37.h), .int .i64 (m37.n), .int .i64 (m37.d), .slice m37.A (m37.l.length) m37.c, strV (m37.s)] := Row.ce KN0 h42 hm38 rfl
    have hb43 := right_bnd (hrt _ (List.mem_of_getElem? hm38))
    refine L (r_ia (k := i) (size := 5) Tryz.underlying22 Tryz.sizeOf43 Z rfl rfl rfl hk36 hA40) Z rfl ?_; clear Z az; intro az Z
    refine L (r_fa (m' := 0) Tryz.underlying43 rfl Tryz.sizeOf3 rfl Z rfl rfl) Z rfl ?_; clear Z az; intro az Z
    refine L (r_ld Tryz.isAgg3 Z rfl ((E41 _ (Only.refl NoF w34)) 0 _ rfl)) Z rfl ?_; clear Z az; intro az Z
    obtain ⟨A44, w45, hw, hA, r46, o47⟩ := Row.made (w := w34) KInt (e := 3) ([m37.h] : List Int) (by simp only [List.length_cons, List.length_nil]; unfold maxLen; omega)
    refine L (r_bs (z := .int .i64 (0)) (size := 1) (vs := [(0, .int .i64 (m37.h))]) (cs := List.flatMap KInt.cells [m37.h]) Tryz.underlying30 Tryz.sizeOf3 Tryz.zeroValue3 rfl (Fr.evalps Z rfl) (by kernel_rfl)) Z rfl ?_
    rw [← hw, ← hA]; clear Z az; intro az Z
    clear hw hA
    have ok48 : ∀ zq ∈ ([m37.h] : List Int), KInt.ok zq := by intro zq hx; simp only [List.mem_cons, List.not_mem_nil, or_false] at hx; rcases hx with rfl <;> first | exact (by show I64 (m37.h); unfold I64; omega)
    have r49 := (ow_k (ow_k rO o35) o47)
    have h50 := SliceOf.pl (Row.own KInt r46 ok48)
    have hb58 : (List.length (O) + List.length ([m37.h])) * 8 ≤ 140737488355328 := by (simp only [List.length_append, List.length_cons, List.length_nil]; omega)
    have O59 : Only NoF w w45 := (Only.trans' (Only.trans' o26 o35) o47)
    obtain ⟨A51, c52, w53, hr54, r55, o56, al57⟩ := Row.app (P := Tryz.prog) (l := O) (l2 := [m37.h]) KInt elemInt r49 h50 hb58 (by unfold maxLen; omega) (size_only O59)
    refine L (r_app hr54 Z rfl rfl) Z rfl ?_; clear Z az; intro az Z
    have ok60 : ∀ zq ∈ (O ++ [m37.h]), KInt.ok zq := (fun x hx => (List.mem_append.1 hx).elim (hOk0 x) ((Row.oks KInt h50) x))
    have h61 := Row.own KInt r55 ok60
    refine L (r_as Z rfl) Z rfl ?_; clear Z az; intro az Z
    refine k32 _ _ ?_
    refine wp_region_lit ?_
    refine L (r_mv Z rfl) Z rfl ?_; clear Z az; intro az Z
    have i62 : I64 (((i : Int) + 1)) := by unfold I64; omega
    refine L (r_addI (r := ((i : Int) + 1)) Z rfl rfl rfl i62) Z rfl ?_; clear Z az; intro az Z
    refine L (r_as Z rfl) Z rfl ?_; clear Z az; intro az Z
    have O63 : Only NoF w25 w45 := (Only.trans' o35 o47)
    have O64 : Only NoF w w53 := (o_sg O59 o56 (Nat.le_refl _) (ownF_ge rO))
    have h65 := (SliceOf.kp (SliceOf.kp h42 o47 (fun _ _ h => h) (fun _ _ _ _ h => h)) o56 (fun k hk h => hsep k h hk) (fun _ _ _ _ h => h))
    have O66 := (Only.trans (Only.trans (Only.trans (Only.refl (fun _ => True) w25) o35 (fun _ _ => .inl trivial)) o47 (fun _ _ => .inl trivial)) o56 (fun _ _ => .inl trivial))
    exact ⟨_, (by omega), i + 1, (O ++ [m37.h]), A51, c52, rfl, Z.cut ⟨rfl, rfl, rfl, trivial⟩, (by omega), (hs_first hm38 hz0 hO), (by first | omega | (simp only [List.length_append, List.length_cons, List.length_nil]; omega)), (fun k h hk => (app_Fg al57 h).elim (fun h => hsep k h hk) (fun h => by rw [h] at hk; exact absurd hk.2 (Nat.not_lt.2 (Nat.le_trans hge8 (size_only O63))))), O64, r55, h65, (Nat.le_trans hge8 (size_only O66))⟩
  · skip
    refine reg_q [(true, 0), (true, 1), (true, 2), (true, 3), (true, 4), (true, 5), (true, 6), (true, 7), (true, 8), (true, 9), (true, 10), (true, 11), (true, 12), (true, 13), (true, 14), (true, 15), (true, 16), (true, 17)] (by kernel_rfl) (by kernel_rfl) (fun _ _ _ _ _ h => h) fun w67 o68 => ?_
    refine M (r_mv Z rfl) Z rfl rfl ?_; clear Z az; intro az Z
    refine M (r_lenL Tryz.underlying30 Z rfl) Z rfl rfl ?_; clear Z az; intro az Z
    refine M ((r_cast (b := false) (r_eqI Z rfl rfl) (decide_eq_false (by omega)))) Z rfl rfl ?_; clear Z az; intro az Z
    refine M (r_mv Z rfl) Z rfl rfl ?_; clear Z az; intro az Z
    refine MT Z rfl rfl (r_mv Z rfl) rfl rfl ?_; clear Z az; intro az Z
    refine MT Z rfl rfl (r_mv Z rfl) rfl rfl ?_; clear Z az; intro az Z
    refine MT Z rfl rfl (r_lenL Tryz.underlying30 Z rfl) rfl rfl ?_; clear Z az; intro az Z
    have i69 : I64 ((((O.length : Nat) : Int) - 1)) := by unfold I64; omega
    refine MT Z rfl rfl (r_subI (r := (((O.length : Nat) : Int) - 1)) Z rfl rfl rfl i69) rfl rfl ?_; clear Z az; intro az Z
    refine MT Z rfl rfl ((r_castI (b := ((O.length : Nat) : Int) - 1) (r_max Z rfl rfl) (by omega))) rfl rfl ?_; clear Z az; intro az Z
    have h70 := Row.own KInt rO hOk0
    have hk71 : (O.length - 1) < (O).length := by omega
    have h77 := (SliceOf.kp h70 o68 (fun _ _ h => h) (fun _ _ _ _ h => h))
    obtain ⟨m72, hm73, ok74, hA75⟩ := Row.el KInt h77 hk71
    have E76 : ∀ W, Only NoF w67 W → CA W (eA Ao 1 ((O.length - 1))) [.int .i64 (m72)] := Row.ce KInt h77 hm73 rfl
    refine MT Z rfl rfl (r_ia (k := (O.length - 1)) (size := 1) Tryz.underlying30 Tryz.sizeOf3 Z rfl rfl (by omega) hk71 hA75) rfl rfl ?_; clear Z az; intro az Z
    refine MT Z rfl rfl (r_ld Tryz.isAgg3 Z rfl (CA.first (E76 _ (Only.refl NoF w67)))) rfl rfl ?_; clear Z az; intro az Z
    refine MT Z rfl rfl (r_mv Z rfl) rfl rfl ?_; clear Z az; intro az Z
    refine MT Z rfl rfl (r_mv Z rfl) rfl rfl ?_; clear Z az; intro az Z
    have hk78 : i < (P10).length := by omega
    have h84 := (SliceOf.kp hNs o68 (fun _ _ h => h) (fun _ _ _ _ h => h))
    obtain ⟨m79, hm80, ok81, hA82⟩ := Row.el KN0 h84 hk78
    have E83 : ∀ W, Only NoF w67 W → CA W (eA A8 5 (i)) [.int .i64 (m79.h), .int .i64 (m79.n), .int .i64 (m79.d), .slice m79.A (m79.l.length) m79.c, strV (m79.s)] := Row.ce KN0 h84 hm80 rfl
    have hb85 := right_bnd (hrt _ (List.mem_of_getElem? hm80))
    refine MT Z rfl rfl (r_ia (k := i) (size := 5) Tryz.underlying22 Tryz.sizeOf43 Z rfl rfl rfl hk78 hA82) rfl rfl ?_; clear Z az; intro az Z
    refine MT Z rfl rfl (r_fa (m' := 0) Tryz.underlying43 rfl Tryz.sizeOf3 rfl Z rfl rfl) rfl rfl ?_; clear Z az; intro az Z
    refine MT Z rfl rfl (r_ld Tryz.isAgg3 Z rfl ((E83 _ (Only.refl NoF w67)) 0 _ rfl)) rfl rfl ?_; clear Z az; intro az Z
    refine MT Z rfl rfl (r_neI Z rfl rfl) rfl rfl ?_; clear Z az; intro az Z
    refine M (r_pick Z rfl rfl rfl) Z rfl rfl ?_; clear Z az; intro az Z
    refine wpMix_nil ?_
    refine k33 _ _ ?_
    refine br Z rfl (fun hc86 => ?_) (fun hc86 => ?_)
    ·
     have p87 := of_decide_eq_false (nt_t hc86)
     refine wp_region_lit ?_
     refine L (r_mv Z rfl) Z rfl ?_; clear Z az; intro az Z
     refine L (r_mv Z rfl) Z rfl ?_; clear Z az; intro az Z
     refine L (r_mv Z rfl) Z rfl ?_; clear Z az; intro az Z
     refine L (r_ia (k := i) (size := 5) Tryz.underlying22 Tryz.sizeOf43 Z rfl rfl rfl hk78 hA82) Z rfl ?_; clear Z az; intro az Z
     refine L (r_fa (m' := 0) Tryz.underlying43 rfl Tryz.sizeOf3 rfl Z rfl rfl) Z rfl ?_; clear Z az; intro az Z
     refine L (r_ld Tryz.isAgg3 Z rfl ((E83 _ (Only.refl NoF w67)) 0 _ rfl)) Z rfl ?_; clear Z az; intro az Z
     obtain ⟨A88, w89, hw, hA, r90, o91⟩ := Row.made (w := w67) KInt (e := 3) ([m79.h] : List Int) (by simp only [List.length_cons, List.length_nil]; unfold maxLen; omega)
     refine L (r_bs (z := .int .i64 (0)) (size := 1) (vs := [(0, .int .i64 (m79.h))]) (cs := List.flatMap KInt.cells [m79.h]) Tryz.underlying30 Tryz.sizeOf3 Tryz.zeroValue3 rfl (Fr.evalps Z rfl) (by kernel_rfl)) Z rfl ?_
     rw [← hw, ← hA]; clear Z az; intro az Z
     clear hw hA
     have ok92 : ∀ zq ∈ ([m79.h] : List Int), KInt.ok zq := by intro zq hx; simp only [List.mem_cons, List.not_mem_nil, or_false] at hx; rcases hx with rfl <;> first | exact (by show I64 (m79.h); unfold I64; omega)
     have r93 := (ow_k (ow_k rO o68) o91)
     have h94 := SliceOf.pl (Row.own KInt r90 ok92)
     have hb102 : (List.length (O) + List.length ([m79.h])) * 8 ≤ 140737488355328 := by (simp only [List.length_append, List.length_cons, List.length_nil]; omega)
     have O103 : Only NoF w w89 := (Only.trans' (Only.trans' o26 o68) o91)
     obtain ⟨A95, c96, w97, hr98, r99, o100, al101⟩ := Row.app (P := Tryz.prog) (l := O) (l2 := [m79.h]) KInt elemInt r93 h94 hb102 (by unfold maxLen; omega) (size_only O103)
     refine L (r_app hr98 Z rfl rfl) Z rfl ?_; clear Z az; intro az Z
     have ok104 : ∀ zq ∈ (O ++ [m79.h]), KInt.ok zq := (fun x hx => (List.mem_append.1 hx).elim (hOk0 x) ((Row.oks KInt h94) x))
     have h105 := Row.own KInt r99 ok104
     refine L (r_as Z rfl) Z rfl ?_; clear Z az; intro az Z
     refine k32 _ _ ?_
     refine wp_region_lit ?_
     refine L (r_mv Z rfl) Z rfl ?_; clear Z az; intro az Z
     have i106 : I64 (((i : Int) + 1)) := by unfold I64; omega
     refine L (r_addI (r := ((i : Int) + 1)) Z rfl rfl rfl i106) Z rfl ?_; clear Z az; intro az Z
     refine L (r_as Z rfl) Z rfl ?_; clear Z az; intro az Z
     have O107 : Only NoF w25 w89 := (Only.trans' o68 o91)
     have O108 : Only NoF w w97 := (o_sg O103 o100 (Nat.le_refl _) (ownF_ge rO))
     have h109 := (SliceOf.kp (SliceOf.kp h84 o91 (fun _ _ h => h) (fun _ _ _ _ h => h)) o100 (fun k hk h => hsep k h hk) (fun _ _ _ _ h => h))
     have O110 := (Only.trans (Only.trans (Only.trans (Only.refl (fun _ => True) w25) o68 (fun _ _ => .inl trivial)) o91 (fun _ _ => .inl trivial)) o100 (fun _ _ => .inl trivial))
     exact ⟨_, (by omega), i + 1, (O ++ [m79.h]), A95, c96, rfl, Z.cut ⟨rfl, rfl, rfl, trivial⟩, (by omega), (hs_new hm80 hm73 hc86 hO), (by first | omega | (simp only [List.length_append, List.length_cons, List.length_nil]; omega)), (fun k h hk => (app_Fg al101 h).elim (fun h => hsep k h hk) (fun h => by rw [h] at hk; exact absurd hk.2 (Nat.not_lt.2 (Nat.le_trans hge8 (size_only O107))))), O108, r99, h109, (Nat.le_trans hge8 (size_only O110))⟩
    ·
     have p111 := of_decide_eq_true (nt_f hc86)
     refine wp_skip ?_
     refine k32 _ _ ?_
     refine wp_region_lit ?_
     refine L (r_mv Z rfl) Z rfl ?_; clear Z az; intro az Z
     have i112 : I64 (((i : Int) + 1)) := by unfold I64; omega
     refine L (r_addI (r := ((i : Int) + 1)) Z rfl rfl rfl i112) Z rfl ?_; clear Z az; intro az Z
     refine L (r_as Z rfl) Z rfl ?_; clear Z az; intro az Z
     have O113 : Only NoF w w67 := (Only.trans' o26 o68)
     have r114 := (ow_k rO o68)
     exact ⟨_, (by omega), i + 1, O, Ao, co, rfl, Z.cut ⟨rfl, rfl, rfl, trivial⟩, (by omega), (hs_old hm80 hm73 hc86 hO), (by first | omega | (simp only [List.length_append, List.length_cons, List.length_nil]; omega)), hsep, O113, r114, h84, (Nat.le_trans hge8 (size_only o68))⟩
 ·
  have p115 := of_decide_eq_false hc30
  refine wp_exit ?_
  refine th_exit ?_
  refine th_exit ?_
  refine ib_hit ?_
  refine k19 _ _ (wp_seq_k fun _ k116 => wp_region_lit ?_)
  refine L (r_mv Z rfl) Z rfl ?_; clear Z az; intro az Z
  refine L (r_as Z rfl) Z rfl ?_; clear Z az; intro az Z
  refine k116 _ _ ?_
  refine wp_ret ?_
  show bodyPost _ _ _ .ret _ _
  refine ret_of (vs := [.slice Ao (O.length) co]) Z Tryz.results37 ⟨rfl, trivial⟩ ?_
  rw [List.take_of_length_le (by omega)] at hO; rw [show hseq (joinN l) = O by rw [hO, ← hP11, hseq_map]]; exact ⟨_, _, rfl, ow_low rO (Nat.le_refl _), o26⟩
theorem rForked_v_ {w : World} {l : List NM} {A : Option Addr} {c : Nat} (t : NtV w (.slice A l.length c) l) (hl : l.length ≤ 400000) (h : Int) : Calls Tryz.prog 38 [.slice A l.length c, .int .i64 h].toArray w (Fix (.bool (hasI (forksN (joinN l)) h)) w) := by
 refine calls_start Tryz.func38 rfl rfl ?_
 intro az Z
 rw [Tryz.ntmps38] at Z
 refine wp_seq_k fun _ k1 => wp_region_lit ?_
 refine L (r_as Z rfl) Z rfl ?_; clear Z az; intro az Z
 refine k1 _ _ (wp_seq_k fun _ k2 => ?_)
 refine wp_seq_k fun _ k3 => wp_region_lit ?_
 refine L (r_as Z rfl) Z rfl ?_; clear Z az; intro az Z
 refine k3 _ _ ?_
 refine wp_block ?_
 refine wp_loop_m (fun mz az W => ∃ i : Nat, mz = l.length - i ∧ Fr 36 [(0, .slice A (l.length) c), (1, .int .i64 (h)), (5, .int .i64 ((i : Int)))] az ∧ (i ≤ l.length) ∧ (FirstAt l h i 0 400) ∧ Only NoF w W) ?_ ?_
 ·
  exact ⟨_, 0, rfl, Z.cut ⟨rfl, rfl, rfl, trivial⟩, Nat.zero_le _, (fi_start l h), (Only.refl NoF w)⟩
 clear Z az
 rintro mz az w4 ⟨i, hm6, Z, hi, hF, o5⟩
 refine wp_seq_k fun _ k7 => ?_
 refine wp_seq_k fun _ k8 => wp_region_lit ?_
 refine L (r_mv Z rfl) Z rfl ?_; clear Z az; intro az Z
 refine L (r_mv Z rfl) Z rfl ?_; clear Z az; intro az Z
 refine L (r_lenL Tryz.underlying22 Z rfl) Z rfl ?_; clear Z az; intro az Z
 refine L (r_ltI Z rfl rfl) Z rfl ?_; clear Z az; intro az Z
 refine k8 _ _ ?_
 refine br Z rfl (fun hc9 => ?_) (fun hc9 => ?_)
 ·
  have p10 := of_decide_eq_true hc9
  refine wp_skip ?_
  refine k7 _ _ (wp_seq_k fun _ k11 => ?_)
  refine wp_block ?_
  refine wp_seq_k fun _ k12 => wp_region_lit ?_
  refine L (r_as Z rfl) Z rfl ?_; clear Z az; intro az Z
  refine k12 _ _ ?_
  refine wp_block ?_
  refine wp_loop_m (fun mz az W => ∃ k : Nat, mz = i - k ∧ Fr 36 [(0, .slice A (l.length) c), (1, .int .i64 (h)), (5, .int .i64 ((i : Int))), (6, .int .i64 ((k : Int)))] az ∧ (k ≤ i) ∧ (FirstAt l h i k 400) ∧ Only NoF w4 W) ?_ ?_
  ·
   exact ⟨_, 0, rfl, Z.cut ⟨rfl, rfl, rfl, rfl, trivial⟩, Nat.zero_le _, hF, (Only.refl NoF w4)⟩
  clear Z az
  rintro mz az w13 ⟨k, hm15, Z, hk, hE, o14⟩
  refine wp_seq_k fun _ k16 => ?_
  refine wp_seq_k fun _ k17 => wp_region_lit ?_
  refine L (r_mv Z rfl) Z rfl ?_; clear Z az; intro az Z
  refine L (r_mv Z rfl) Z rfl ?_; clear Z az; intro az Z
  refine L (r_ltI Z rfl rfl) Z rfl ?_; clear Z az; intro az Z
  refine k17 _ _ ?_
  refine br Z rfl (fun hc18 => ?_) (fun hc18 => ?_)
  ·
   have p19 := of_decide_eq_true hc18
   refine wp_skip ?_
   refine k16 _ _ (wp_seq_k fun _ k20 => ?_)
   refine wp_block ?_
   refine wp_seq_k fun _ k21 => ?_
   refine reg_p NoF 1 [16] (.rd 0 (.rd 1 (.rd 2 (.rd 3 (.rd 4 (.rd 5 (.rd 6 (.rd 7 (.rd 8 (.rd 9 (.rd 10 (.rd 11 (.rd 12 (.rd 13 (.rd 14 (.rd 15 (.ex 16 (.rd 17 .nil)))))))))))))))))) (by kernel_rfl) (by kernel_rfl) (fun _ _ _ _ _ h => h) fun w22 o23 => ?_
   refine Pl.MSP (b := true) (by kernel_rfl) (fun W oW => r_mv Z rfl) Z rfl rfl ?_; clear Z az; intro az Z
   refine Pl.MSP (b := true) (by kernel_rfl) (fun W oW => r_mv Z rfl) Z rfl rfl ?_; clear Z az; intro az Z
   have hk24 : i < (l).length := by omega
   have O30 : Only NoF w w22 := (Only.trans' (Only.trans' o5 o14) o23)
   have h31 := (SliceOf.kp t.1 O30 (fun _ _ h => h) (fun _ _ _ _ h => h))
   obtain ⟨m25, hm26, ok27, hA28⟩ := Row.el KN0 h31 hk24
   have E29 : ∀ W, Only NoF w22 W → CA W (eA A 5 (i)) [.int .i64 (m25.h), .int .i64 (m25.n), .int .i64 (m25.d), .slice m25.A (m25.l.length) m25.c, strV (m25.s)] := Row.ce KN0 h31 hm26 rfl
   refine Pl.MSP (b := true) (by kernel_rfl) (fun W oW => r_ia (k := i) (size := 5) Tryz.underlying22 Tryz.sizeOf43 Z rfl rfl rfl hk24 hA28) Z rfl rfl ?_; clear Z az; intro az Z
   refine Pl.MSP (b := true) (by kernel_rfl) (fun W oW => r_fa (m' := 0) Tryz.underlying43 rfl Tryz.sizeOf3 rfl Z rfl rfl) Z rfl rfl ?_; clear Z az; intro az Z
   refine Pl.MSP (b := true) (by kernel_rfl) (fun W oW => r_ld Tryz.isAgg3 Z rfl ((E29 _ (Only.trans' (Only.refl NoF w22) oW)) 0 _ rfl)) Z rfl rfl ?_; clear Z az; intro az Z
   refine Pl.MSP (b := true) (by kernel_rfl) (fun W oW => r_mv Z rfl) Z rfl rfl ?_; clear Z az; intro az Z
   refine Pl.MSP (b := true) (by kernel_rfl) (fun W oW => r_eqI Z rfl rfl) Z rfl rfl ?_; clear Z az; intro az Z
   refine Pl.MSP (b := true) (by kernel_rfl) (fun W oW => r_mv Z rfl) Z rfl rfl ?_; clear Z az; intro az Z
   refine Pl.MSPG (b := true) (by kernel_rfl) Z rfl rfl gd_t (fun hb W oW => r_mv Z rfl) rfl rfl ?_; clear Z az; intro az Z
   refine Pl.MSPG (b := true) (by kernel_rfl) Z rfl rfl gd_t (fun hb W oW => r_mv Z rfl) rfl rfl ?_; clear Z az; intro az Z
   refine Pl.MSPG (b := true) (by kernel_rfl) Z rfl rfl gd_t (fun hb W oW => r_ia (k := i) (size := 5) Tryz.underlying22 Tryz.sizeOf43 Z (evg hb rfl) (evg hb rfl) rfl hk24 hA28) rfl rfl ?_; clear Z az; intro az Z
   refine Pl.MSPG (b := true) (by kernel_rfl) Z rfl rfl gd_t (fun hb W oW => r_ldA Tryz.isAgg43 Tryz.sizeOf43 Z (evg hb rfl) (E29 _ (Only.trans' (Only.refl NoF w22) oW)) rfl) rfl rfl ?_; clear Z az; intro az Z
   refine Pl.MSPG (b := true) (by kernel_rfl) Z rfl rfl gd_t (fun hb W oW => r_mv Z rfl) rfl rfl ?_; clear Z az; intro az Z
   refine Pl.MSPG (b := true) (by kernel_rfl) Z rfl rfl gd_t (fun hb W oW => r_mv Z rfl) rfl rfl ?_; clear Z az; intro az Z
   have hk32 : k < (l).length := by omega
   obtain ⟨m33, hm34, ok35, hA36⟩ := Row.el KN0 h31 hk32
   have E37 : ∀ W, Only NoF w22 W → CA W (eA A 5 (k)) [.int .i64 (m33.h), .int .i64 (m33.n), .int .i64 (m33.d), .slice m33.A (m33.l.length) m33.c, strV (m33.s)] := Row.ce KN0 h31 hm34 rfl
   refine Pl.MSPG (b := true) (by kernel_rfl) Z rfl rfl gd_t (fun hb W oW => r_ia (k := k) (size := 5) Tryz.underlying22 Tryz.sizeOf43 Z (evg hb rfl) (evg hb rfl) rfl hk32 hA36) rfl rfl ?_; clear Z az; intro az Z
   refine Pl.MSPG (b := true) (by kernel_rfl) Z rfl rfl gd_t (fun hb W oW => r_ldA Tryz.isAgg43 Tryz.sizeOf43 Z (evg hb rfl) (E37 _ (Only.trans' (Only.refl NoF w22) oW)) rfl) rfl rfl ?_; clear Z az; intro az Z
   have h38 := (SliceOf.kp (t.2 _ (List.mem_of_getElem? hm26)).2.2.2.1 O30 (fun _ _ h => h) (fun _ _ _ _ h => h))
   have h39 := (SliceOf.kp (t.2 _ (List.mem_of_getElem? hm34)).2.2.2.1 O30 (fun _ _ h => h) (fun _ _ _ _ h => h))
   refine Pl.MSGV (v := .bool (convicts m25 m33)) Z rfl rfl gd_t rfl rfl (fun hb => (evs_c (evg hb rfl) (evs_c (evg hb rfl) rfl))) Tryz.call59 (fun hb => rConvicts_v (m := m25) (m2 := m33) h38 h39) rfl (fun w' o' => ⟨fun _ => o', (Only.trans (Only.refl NoF w22) o' (fun _ h => h.elim))⟩) fun w40 o41 => ?_; clear Z az; intro az Z
   refine Pl.MSP (b := true) (by kernel_rfl) (fun W oW => r_and Z rfl rfl rfl) Z rfl rfl ?_; clear Z az; intro az Z
   refine wpPl_nil ?_
   refine k21 _ _ ?_
   refine br Z rfl (fun hc42 => ?_) (fun hc42 => ?_)
   ·
    have p43 := of_decide_eq_true (and_t hc42).1
    have q44 : convicts m25 m33 = true := (and_t hc42).2
    refine wp_seq_k fun _ k45 => wp_region_lit ?_
    refine L (r_as Z rfl) Z rfl ?_; clear Z az; intro az Z
    refine k45 _ _ ?_
    refine wp_ret ?_
    show bodyPost _ _ _ .ret _ _
    refine ret_of (vs := [.bool (true)]) Z Tryz.results38 ⟨rfl, trivial⟩ ?_
    have O46 : Only NoF w w40 := (Only.trans' O30 o41)
    rw [fk_yes hm26 hm34 hc42]; exact ⟨rfl, O46⟩
   ·
    have d47 := hc42
    refine wp_skip ?_
    refine k20 _ _ ?_
    refine wp_region_lit ?_
    refine L (r_mv Z rfl) Z rfl ?_; clear Z az; intro az Z
    have i48 : I64 (((k : Int) + 1)) := by unfold I64; omega
    refine L (r_addI (r := ((k : Int) + 1)) Z rfl rfl rfl i48) Z rfl ?_; clear Z az; intro az Z
    refine L (r_as Z rfl) Z rfl ?_; clear Z az; intro az Z
    have O49 : Only NoF w4 w40 := (Only.trans' (Only.trans' o14 o23) o41)
    exact ⟨_, (by omega), k + 1, rfl, Z.cut ⟨rfl, rfl, rfl, rfl, trivial⟩, (by omega), (fi_no hm26 hm34 hc42 hE), O49⟩
  ·
   have p50 := of_decide_eq_false hc18
   refine wp_exit ?_
   refine th_exit ?_
   refine th_exit ?_
   refine ib_hit ?_
   refine k11 _ _ ?_
   refine wp_region_lit ?_
   refine L (r_mv Z rfl) Z rfl ?_; clear Z az; intro az Z
   have i51 : I64 (((i : Int) + 1)) := by unfold I64; omega
   refine L (r_addI (r := ((i : Int) + 1)) Z rfl rfl rfl i51) Z rfl ?_; clear Z az; intro az Z
   refine L (r_as Z rfl) Z rfl ?_; clear Z az; intro az Z
   have O52 : Only NoF w w13 := (Only.trans' o5 o14)
   exact ⟨_, (by omega), i + 1, rfl, Z.cut ⟨rfl, rfl, rfl, trivial⟩, (by omega), (fi_row (by omega) hE), O52⟩
 ·
  have p53 := of_decide_eq_false hc9
  refine wp_exit ?_
  refine th_exit ?_
  refine th_exit ?_
  refine ib_hit ?_
  refine k2 _ _ (wp_seq_k fun _ k54 => wp_region_lit ?_)
  refine L (r_as Z rfl) Z rfl ?_; clear Z az; intro az Z
  refine k54 _ _ ?_
  refine wp_ret ?_
  show bodyPost _ _ _ .ret _ _
  refine ret_of (vs := [.bool (false)]) Z Tryz.results38 ⟨rfl, trivial⟩ ?_
  rw [fk_no (fi_end (by omega) hF)]; exact ⟨rfl, o5⟩
theorem rForks_v_ {w : World} {l : List NM} {A : Option Addr} {c : Nat} (t : NtV w (.slice A l.length c) l) (hl : l.length ≤ 400000) : Calls Tryz.prog 14 [.slice A l.length c].toArray w (IOut (forksN (joinN l)) w) := by
 refine calls_start Tryz.func14 rfl rfl ?_
 intro az Z
 rw [Tryz.ntmps14] at Z
 refine wp_seq_k fun _ k1 => wp_region_lit ?_
 refine L (r_as Z rfl) Z rfl ?_; clear Z az; intro az Z
 refine k1 _ _ (wp_seq_k fun _ k2 => wp_region_lit ?_)
 obtain ⟨A3, w4, hw, hA, r5, o6⟩ := made0 (w := w) (e := 3) (size := 1)
 refine L (r_bs0 Tryz.underlying30 Tryz.sizeOf3) Z rfl ?_
 rw [← hw, ← hA]; clear Z az; intro az Z
 clear hw hA
 refine L (r_as Z rfl) Z rfl ?_; clear Z az; intro az Z
 refine k2 _ _ (wp_seq_k fun _ k7 => wp_region_lit ?_)
 refine L (r_mv Z rfl) Z rfl ?_; clear Z az; intro az Z
 have hC12 := rHouses_v_ (NtV.k t o6) hl
 refine LC Z rfl rfl Tryz.call37 (hC12) rfl ?_
 rintro e w13 ⟨A8, c9, rfl, r10, o11⟩; refine ⟨_, rfl, ?_⟩
 clear Z az; intro az Z
 have hHl := hseq_len l
 refine L (r_as Z rfl) Z rfl ?_; clear Z az; intro az Z
 refine k7 _ _ (wp_seq_k fun _ k14 => ?_)
 refine wp_seq_k fun _ k15 => wp_region_lit ?_
 refine L (r_as Z rfl) Z rfl ?_; clear Z az; intro az Z
 refine k15 _ _ ?_
 refine wp_block ?_
 refine wp_loop_m (fun mz az W => ∃ i : Nat, ∃ O : List Int, ∃ Ao : Option Addr, ∃ co : Nat, mz = (hseq (joinN l)).length - i ∧ Fr 29 [(0, .slice A (l.length) c), (4, .slice A8 ((hseq (joinN l)).length) c9), (5, .int .i64 ((i : Int))), (3, .slice Ao (O.length) co)] az ∧ (i ≤ (hseq (joinN l)).length) ∧ (O = (List.take i (hseq (joinN l))).filter (fun z => hasI (forksN (joinN l)) z)) ∧ (∀ k, ownF (.slice Ao O.length co) k → ¬ ownF (.slice A8 ((hseq (joinN l)).length) c9) k) ∧ Only NoF w W ∧ W.ownsRow w.heap.size 3 1 (.slice Ao O.length co) O.length (List.flatMap KInt.cells O) ∧ W.ownsRow w.heap.size 3 1 (.slice A8 ((hseq (joinN l)).length) c9) (hseq (joinN l)).length (List.flatMap KInt.cells (hseq (joinN l)))) ?_ ?_
 ·
  have sep16 : ∀ k, ownF (.slice A3 (0) 0) k → ¬ ownF (.slice A8 ((hseq (joinN l)).length) c9) k := fun k h h2 => absurd (Nat.lt_of_lt_of_le (ownF_lt r5 k h) (Nat.le_refl _)) (Nat.not_lt.2 (ownF_ge r10 k h2))
  have O17 : Only NoF w w13 := (Only.trans' o6 o11)
  have r18 := (ow_k r5 o11)
  exact ⟨_, 0, [], A3, 0, rfl, Z.cut ⟨rfl, rfl, rfl, rfl, trivial⟩, Nat.zero_le _, rfl, sep16, O17, r18, (ow_low r10 (size_only o6))⟩
 clear Z az
 rintro mz az w19 ⟨i, O, Ao, co, hm21, Z, hi, hO, hsep, o20, rO, rH⟩
 have hOk0 : ∀ z ∈ O, KInt.ok z := fun z hz => by rw [hO] at hz; exact hseq_ok l z (List.mem_of_mem_take (List.mem_filter.1 hz).1)
 have hOl : O.length ≤ 400 := by rw [hO]; exact Nat.le_trans (List.length_filter_le _ _) (by rw [List.length_take]; omega)
 refine wp_seq_k fun _ k22 => ?_
 refine wp_seq_k fun _ k23 => wp_region_lit ?_
 refine L (r_mv Z rfl) Z rfl ?_; clear Z az; intro az Z
 refine L (r_mv Z rfl) Z rfl ?_; clear Z az; intro az Z
 refine L (r_lenL Tryz.underlying30 Z rfl) Z rfl ?_; clear Z az; intro az Z
 refine L (r_ltI Z rfl rfl) Z rfl ?_; clear Z az; intro az Z
 refine k23 _ _ ?_
 refine br Z rfl (fun hc24 => ?_) (fun hc24 => ?_)
 ·
  have p25 := of_decide_eq_true hc24
  refine wp_skip ?_
  refine k22 _ _ (wp_seq_k fun _ k26 => ?_)
  refine wp_block ?_
  refine wp_seq_k fun _ k27 => wp_region_lit ?_
  refine L (r_mv Z rfl) Z rfl ?_; clear Z az; intro az Z
  refine L (r_mv Z rfl) Z rfl ?_; clear Z az; intro az Z
  refine L (r_mv Z rfl) Z rfl ?_; clear Z az; intro az Z
  have h28 := Row.own KInt rH (hseq_ok l)
  have hk29 : i < ((hseq (joinN l))).length := by omega
  obtain ⟨m30, hm31, ok32, hA33⟩ := Row.el KInt h28 hk29
  have E34 : ∀ W, Only NoF w19 W → CA W (eA A8 1 (i)) [.int .i64 (m30)] := Row.ce KInt h28 hm31 rfl
  refine L (r_ia (k := i) (size := 1) Tryz.underlying30 Tryz.sizeOf3 Z rfl rfl rfl hk29 hA33) Z rfl ?_; clear Z az; intro az Z
  refine L (r_ld Tryz.isAgg3 Z rfl (CA.first (E34 _ (Only.refl NoF w19)))) Z rfl ?_; clear Z az; intro az Z
  refine LCV (v := .bool (hasI (forksN (joinN l)) m30)) Z rfl rfl Tryz.call38 (rForked_v_ (NtV.k t o20) hl m30) rfl fun w35 o36 => ?_; clear Z az; intro az Z
  refine k27 _ _ ?_
  refine br Z rfl (fun hc37 => ?_) (fun hc37 => ?_)
  ·
   have q38 : hasI (forksN (joinN l)) m30 = true := hc37
   refine wp_region_lit ?_
   refine L (r_mv Z rfl) Z rfl ?_; clear Z az; intro az Z
   refine L (r_mv Z rfl) Z rfl ?_; clear Z az; intro az Z
   refine L (r_mv Z rfl) Z rfl ?_; clear Z az; intro az Z
   refine L (r_ia (k := i) (size := 1) Tryz.underlying30 Tryz.sizeOf3 Z rfl rfl rfl hk29 hA33) Z rfl ?_; clear Z az; intro az Z
   refine L (r_ld Tryz.isAgg3 Z rfl (CA.first (E34 _ o36))) Z rfl ?_; clear Z az; intro az Z
   obtain ⟨A39, w40, hw, hA, r41, o42⟩ := Row.made (w := w35) KInt (e := 3) ([m30] : List Int) (by simp only [List.length_cons, List.length_nil]; unfold maxLen; omega)
   refine L (r_bs (z := .int .i64 (0)) (size := 1) (vs := [(0, .int .i64 (m30))]) (cs := List.flatMap KInt.cells [m30]) Tryz.underlying30 Tryz.sizeOf3 Tryz.zeroValue3 rfl (Fr.evalps Z rfl) (by kernel_rfl)) Z rfl ?_
   rw [← hw, ← hA]; clear Z az; intro az Z
   clear hw hA
   have ok43 : ∀ zq ∈ ([m30] : List Int), KInt.ok zq := by intro zq hx; simp only [List.mem_cons, List.not_mem_nil, or_false] at hx; rcases hx with rfl <;> first | exact (hseq_ok l _ (List.mem_of_getElem? hm31))
   have r44 := (ow_k (ow_k rH o36) o42)
   have r45 := (ow_k (ow_k rO o36) o42)
   have h46 := SliceOf.pl (Row.own KInt r41 ok43)
   have hb54 : (List.length (O) + List.length ([m30])) * 8 ≤ 140737488355328 := by (simp only [List.length_append, List.length_cons, List.length_nil]; omega)
   have O55 : Only NoF w w40 := (Only.trans' (Only.trans' o20 o36) o42)
   obtain ⟨A47, c48, w49, hr50, r51, o52, al53⟩ := Row.app (P := Tryz.prog) (l := O) (l2 := [m30]) KInt elemInt r45 h46 hb54 (by unfold maxLen; omega) (size_only O55)
   refine L (r_app hr50 Z rfl rfl) Z rfl ?_; clear Z az; intro az Z
   have ok56 : ∀ zq ∈ (O ++ [m30]), KInt.ok zq := (fun x hx => (List.mem_append.1 hx).elim (hOk0 x) ((Row.oks KInt h46) x))
   have h57 := Row.own KInt r51 ok56
   have r58 := (ow_only r44 o52 (fun k hk hF => hsep k hF hk))
   have sep59 : ∀ k, ownF (.slice A47 (((O ++ [m30])).length) c48) k → ¬ ownF (.slice A8 ((hseq (joinN l)).length) c9) k := fun k h h2 => (app_Fg al53 h).elim (fun h => hsep k h h2) (fun h => by have h3 := ownF_lt r44 k h2; omega)
   refine L (r_as Z rfl) Z rfl ?_; clear Z az; intro az Z
   refine k26 _ _ ?_
   refine wp_region_lit ?_
   refine L (r_mv Z rfl) Z rfl ?_; clear Z az; intro az Z
   have i60 : I64 (((i : Int) + 1)) := by unfold I64; omega
   refine L (r_addI (r := ((i : Int) + 1)) Z rfl rfl rfl i60) Z rfl ?_; clear Z az; intro az Z
   refine L (r_as Z rfl) Z rfl ?_; clear Z az; intro az Z
   have O61 : Only NoF w w49 := (o_sg O55 o52 (Nat.le_refl _) (ownF_ge rO))
   exact ⟨_, (by omega), i + 1, (O ++ [m30]), A47, c48, rfl, Z.cut ⟨rfl, rfl, rfl, rfl, trivial⟩, (by omega), (fl_yes (p := fun z => hasI (forksN (joinN l)) z) hm31 hc37 hO), sep59, O61, r51, r58⟩
  ·
   have q62 : hasI (forksN (joinN l)) m30 = false := hc37
   refine wp_skip ?_
   refine k26 _ _ ?_
   refine wp_region_lit ?_
   refine L (r_mv Z rfl) Z rfl ?_; clear Z az; intro az Z
   have i63 : I64 (((i : Int) + 1)) := by unfold I64; omega
   refine L (r_addI (r := ((i : Int) + 1)) Z rfl rfl rfl i63) Z rfl ?_; clear Z az; intro az Z
   refine L (r_as Z rfl) Z rfl ?_; clear Z az; intro az Z
   have O64 : Only NoF w w35 := (Only.trans' o20 o36)
   have r65 := (ow_k rO o36)
   have r66 := (ow_k rH o36)
   exact ⟨_, (by omega), i + 1, O, Ao, co, rfl, Z.cut ⟨rfl, rfl, rfl, rfl, trivial⟩, (by omega), (fl_no (p := fun z => hasI (forksN (joinN l)) z) hm31 hc37 hO), hsep, O64, r65, r66⟩
 ·
  have p67 := of_decide_eq_false hc24
  refine wp_exit ?_
  refine th_exit ?_
  refine th_exit ?_
  refine ib_hit ?_
  refine k14 _ _ (wp_seq_k fun _ k68 => wp_region_lit ?_)
  refine L (r_mv Z rfl) Z rfl ?_; clear Z az; intro az Z
  refine L (r_as Z rfl) Z rfl ?_; clear Z az; intro az Z
  refine k68 _ _ ?_
  refine wp_ret ?_
  show bodyPost _ _ _ .ret _ _
  refine ret_of (vs := [.slice Ao (O.length) co]) Z Tryz.results14 ⟨rfl, trivial⟩ ?_
  rw [List.take_of_length_le (by omega), hseq_forks] at hO; subst hO; exact ⟨_, _, rfl, ow_low rO (Nat.le_refl _), o20⟩
end
section
open Go.RowKit
/-! ### Past, in plain Lean -/
theorem chk_take {h0 : Int} : ∀ (l : List NM) (i : Nat) (d : Int) (k j : Nat), j ≤ k → chk h0 i d (l.take k) = 0 → chk h0 i d (l.take j) = 0
 | [], i, d, k, j, _, _ => by rw [List.take_nil]; rfl
 | m :: l, i, d, k, 0, _, _ => rfl
 | m :: l, i, d, 0, j + 1, h, _ => by omega
 | m :: l, i, d, k + 1, j + 1, h, hc => by
  rw [List.take_succ_cons] at hc ⊢
  unfold chk at hc ⊢
  split at hc
  · cases hc
  · rename_i h1
    split at hc
    · cases hc
    · rename_i h2
      split at hc
      · cases hc
      · rename_i h3
        split at hc
        · cases hc
        · rename_i h4
          split at hc
          · cases hc
          · rename_i h5
            rw [if_neg h1, if_neg h2, if_neg h3, if_neg h4, if_neg h5]
            exact chk_take l (i + 1) m.d k j (by omega) hc
theorem check_take {l : List NM} {k j : Nat} (h : j ≤ k) (hc : check (l.take k) = 0) : check (l.take j) = 0 := by
 cases l with
 | nil => rw [List.take_nil]; rfl
 | cons a r =>
  cases j with
  | zero => rfl
  | succ j =>
   obtain ⟨k, rfl⟩ : ∃ q, k = q + 1 := ⟨k - 1, by omega⟩
   have hl := check_len hc
   unfold check at hc ⊢
   rw [if_neg (by omega)] at hc
   rw [if_neg (by rw [List.length_take] at hl ⊢; omega)]
   have e1 : hdH ((a :: r).take (k + 1)) = hdH ((a :: r).take (j + 1)) := rfl
   rw [e1] at hc
   exact chk_take (a :: r) 0 0 (k + 1) (j + 1) h hc
theorem dwn_eq {l : List NM} {n : Nat} (h0 : check (l.take n) = 0) : ∀ N, n ≤ N → (∀ k, n < k → k ≤ N → check (l.take k) ≠ 0) → dwnN l N = n
 | 0, h, _ => by have : n = 0 := by omega
                 subst this; rfl
 | N + 1, h, hn => by
  unfold dwnN
  by_cases e : n = N + 1
  · subst e; rw [if_pos h0]
  · rw [if_neg (hn (N + 1) (by omega) (Nat.le_refl _))]
    exact dwn_eq h0 N (by omega) fun k h1 h2 => hn k h1 (by omega)
section
variable {X : List NM} {n i j : Nat} {p : NM → Bool}
theorem two_len {a b : NM} (hij : i < j) (ha : X[i]? = some a) (hb : X[j]? = some b) (pa : p a = true) (pb : p b = true) : 2 ≤ (X.filter p).length := by
 have h1 : a ∈ (X.take (i + 1)).filter p := by
  refine List.mem_filter.2 ⟨List.mem_of_getElem? (i := i) ?_, pa⟩
  rw [List.getElem?_take, if_pos (by omega)]; exact ha
 have h2 : b ∈ (X.drop (i + 1)).filter p := by
  refine List.mem_filter.2 ⟨List.mem_of_getElem? (i := j - (i + 1)) ?_, pb⟩
  rw [List.getElem?_drop, show i + 1 + (j - (i + 1)) = j by omega]; exact hb
 have e := congrArg (fun l => (List.filter p l).length) (List.take_append_drop (i + 1) X)
 simp only [List.filter_append, List.length_append] at e
 have := List.length_pos_of_mem h1
 have := List.length_pos_of_mem h2
 omega
/-- the next one counts exactly if there is one note of its number -/
theorem ok_one (hX : UpN X) (h0 : ∀ m ∈ X, 0 ≤ m.n) (hq : ∀ q, q < n → okAt X q = true) (hn : n ≤ X.length) : okAt X n = true ↔ (X.filter fun m => decide (m.n = (n : Int))).length = 1 := by
 have hle : ∀ (a b : Nat) (x y : NM), a < b → X[a]? = some x → X[b]? = some y → x.n ≤ y.n := fun a b x y hab hx hy => by
  obtain ⟨a1, a2⟩ := List.getElem?_eq_some_iff.1 hx
  obtain ⟨b1, b2⟩ := List.getElem?_eq_some_iff.1 hy
  have := List.pairwise_iff_getElem.1 hX a b a1 b1 hab
  rw [a2, b2] at this; exact this
 have hat : ∀ q x, q < n → X[q]? = some x → x.n = (q : Int) := fun q x h hx => by
  have := hq q h
  unfold okAt at this
  rw [hx] at this
  simp only [Bool.and_eq_true, decide_eq_true_eq] at this
  exact this.1
 have hge : ∀ q x, n ≤ q → X[q]? = some x → (n : Int) ≤ x.n := fun q x h hx => by
  rcases Nat.eq_zero_or_pos n with e | e
  · have := h0 x (List.mem_of_getElem? hx); omega
  · have hk := hq (n - 1) (by omega)
    have hlt := ok_lt hk
    have h1 : X[n - 1]? = some (X[n - 1]'hlt) := List.getElem?_eq_getElem hlt
    have hn1 : n < X.length := by have := (List.getElem?_eq_some_iff.1 hx).1; omega
    have h2 : X[n]? = some (X[n]'hn1) := List.getElem?_eq_getElem hn1
    unfold okAt at hk
    rw [h1, show n - 1 + 1 = n by omega, h2] at hk
    simp only [Bool.and_eq_true, decide_eq_true_eq] at hk
    rcases Nat.lt_or_ge n q with h5 | h5
    · have := hle n q _ x h5 h2 hx; omega
    · have : q = n := by omega
      subst this
      rw [h2] at hx; injection hx with hx; subst hx; omega
 constructor
 · intro h
   have hlt := ok_lt h
   have h1 : X[n]? = some (X[n]'hlt) := List.getElem?_eq_getElem hlt
   generalize X[n]'hlt = m at h1
   have e : X = X.take n ++ (m :: X.drop (n + 1)) := by
    have := List.take_append_drop n X
    rw [← List.getElem_cons_drop hlt] at this
    have e2 : X[n] = m := Option.some.inj ((List.getElem?_eq_getElem hlt).symm.trans h1)
    rw [e2] at this; exact this.symm
   unfold okAt at h
   rw [h1] at h
   simp only [Bool.and_eq_true, decide_eq_true_eq] at h
   have f1 : (X.take n).filter (fun m => decide (m.n = (n : Int))) = [] := List.filter_eq_nil_iff.2 fun x hx => by
    obtain ⟨q, hq1⟩ := List.getElem?_of_mem hx
    rw [List.getElem?_take] at hq1
    split at hq1
    · rename_i hqn
      have := hat q x hqn hq1
      simp only [decide_eq_true_eq]; omega
    · cases hq1
   have f2 : (X.drop (n + 1)).filter (fun m => decide (m.n = (n : Int))) = [] := List.filter_eq_nil_iff.2 fun x hx => by
    obtain ⟨q, hq1⟩ := List.getElem?_of_mem hx
    rw [List.getElem?_drop] at hq1
    have hlt2 : n + 1 < X.length := by have := (List.getElem?_eq_some_iff.1 hq1).1; omega
    have h2 : X[n + 1]? = some (X[n + 1]'hlt2) := List.getElem?_eq_getElem hlt2
    rw [h2] at h
    have h3 := of_decide_eq_true h.2
    simp only [decide_eq_true_eq]
    rcases Nat.eq_zero_or_pos q with e0 | e0
    · subst e0
      rw [Nat.add_zero, h2] at hq1
      injection hq1 with hq1; rw [← hq1]; omega
    · have := hle (n + 1) (n + 1 + q) _ x (by omega) h2 hq1; omega
   rw [e, List.filter_append, f1, List.nil_append, List.filter_cons, f2]
   simp [h.1]
 · intro h
   obtain ⟨m, hm⟩ : ∃ m, m ∈ X.filter fun m => decide (m.n = (n : Int)) := List.exists_mem_of_ne_nil _ (fun e => by rw [e] at h; cases h)
   obtain ⟨hmX, hmn⟩ := List.mem_filter.1 hm
   have hmn := of_decide_eq_true hmn
   obtain ⟨k, hk⟩ := List.getElem?_of_mem hmX
   have hkn : n ≤ k := by
    rcases Nat.lt_or_ge k n with h1 | h1
    · have := hat k m h1 hk; omega
    · exact h1
   have hkl := (List.getElem?_eq_some_iff.1 hk).1
   have hk2 : k = n := by
    rcases Nat.lt_or_ge n k with h1 | h1
    · exfalso
      have h2 : X[n]? = some (X[n]'(by omega)) := List.getElem?_eq_getElem (by omega)
      have h3 := hge n _ (Nat.le_refl _) h2
      have h4 := hle n k _ m h1 h2 hk
      have := two_len (p := fun m => decide (m.n = (n : Int))) h1 h2 hk (decide_eq_true (by omega)) (decide_eq_true hmn)
      omega
    · omega
   subst hk2
   unfold okAt
   rw [hk]
   simp only [Bool.and_eq_true, decide_eq_true_eq]
   refine ⟨hmn, ?_⟩
   cases h5 : X[k + 1]? with
   | none => rfl
   | some m2 =>
    refine decide_eq_true ?_
    have h6 := hge (k + 1) m2 (by omega) h5
    rcases Int.lt_or_le (k : Int) m2.n with h7 | h7
    · exact h7
    · exfalso
      have := two_len (p := fun m => decide (m.n = (k : Int))) (by omega : k < k + 1) hk h5 (decide_eq_true hmn) (decide_eq_true (by omega))
      omega
end
/-- what Past has gathered: the first n notes of a house, all of which count -/
structure PstI (X O : List NM) : Prop where
 l : O.length ≤ X.length
 o : O.map ns = X.take O.length
 c : check O = 0
 k : ∀ q, q < O.length → okAt X q = true
def pstF (h : Int) (n : Nat) (P : List NM) : List NM := P.filter fun m => decide (m.h = h) && decide (m.n = (n : Int))
def nxtQ (O F : List NM) : List NM := match F.getLast? with
 | none => O
 | some m => O ++ [m]
section
variable {l P O F Q X : List NM} {h : Int} {i : Nat} {m : NM} {c : Int} {n : Nat}
theorem pf_yes (hm : P[i]? = some m) (hc : (decide (m.h = h) && decide (m.n = (n : Int))) = true) (hF : F = pstF h n (P.take i)) : F ++ [m] = pstF h n (P.take (i + 1)) := by
 unfold pstF at *
 rw [take_succ_get hm, List.filter_append, ← hF]; simp [hc]
theorem pf_no (hm : P[i]? = some m) (hc : (decide (m.h = h) && decide (m.n = (n : Int))) = false) (hF : F = pstF h n (P.take i)) : F = pstF h n (P.take (i + 1)) := by
 unfold pstF at *
 rw [take_succ_get hm, List.filter_append, ← hF]; simp [hc]
theorem nx_snoc (O F : List NM) (m : NM) : O ++ [m] = nxtQ O (F ++ [m]) := by
 unfold nxtQ; simp
theorem pf_len (hP : P.map ns = joinN l) (h : Int) (n : Nat) : (pstF h n P).length = ((ofN (joinN l) h).filter fun m => decide (m.n = (n : Int))).length := by
 have e : (pstF h n P).map ns = (ofN (joinN l) h).filter fun m => decide (m.n = (n : Int)) := by
  unfold pstF ofN
  rw [List.filter_filter, ← hP, List.filter_map]
  congr 1
  refine List.filter_congr fun x _ => ?_
  show (decide (x.h = h) && decide (x.n = (n : Int))) = (decide ((ns x).n = (n : Int)) && decide ((ns x).h = h))
  rw [Bool.and_comm]; rfl
 rw [← e, List.length_map]
theorem pst_start (X : List NM) : PstI X [] := ⟨Nat.zero_le _, rfl, rfl, fun q h => by cases h⟩
theorem of_n0 (l : List NM) (h : Int) : ∀ m ∈ ofN (joinN l) h, 0 ≤ m.n := fun m hm => (right_bnd (join_good l m (of_mem.1 hm).1).1).2.2.1
theorem pst_ok (hI : PstI (ofN (joinN l) h) O) (hP : P.map ns = joinN l) : okAt (ofN (joinN l) h) O.length = true ↔ (pstF h O.length P).length = 1 := by
 rw [pf_len hP]
 exact ok_one (of_up (join_sorted l) h) (of_n0 l h) hI.k hI.l
theorem pst_go (hI : PstI (ofN (joinN l) h) O) (hP : P.map ns = joinN l) (hF : F = pstF h O.length P) (hc : F.length = 1) (hk : check (nxtQ O F) = 0) : PstI (ofN (joinN l) h) (nxtQ O F) ∧ (nxtQ O F).length = O.length + 1 := by
 have hok : okAt (ofN (joinN l) h) O.length = true := (pst_ok hI hP).2 (by rw [← hF]; exact hc)
 have hlt := ok_lt hok
 obtain ⟨m, hm⟩ : ∃ m, F = [m] := List.length_eq_one_iff.1 hc
 have hQ : nxtQ O F = O ++ [m] := by rw [hm]; rfl
 rw [hQ] at hk ⊢
 have hmF : m ∈ pstF h O.length P := by rw [← hF, hm]; exact List.mem_cons_self
 unfold pstF at hmF
 obtain ⟨hmP, hmc⟩ := List.mem_filter.1 hmF
 rw [Bool.and_eq_true, decide_eq_true_eq, decide_eq_true_eq] at hmc
 have h1 : (ofN (joinN l) h)[O.length]? = some ((ofN (joinN l) h)[O.length]'hlt) := List.getElem?_eq_getElem hlt
 generalize (ofN (joinN l) h)[O.length]'hlt = y at h1
 have hyn : y.n = (O.length : Int) := by
  unfold okAt at hok
  rw [h1] at hok
  simp only [Bool.and_eq_true, decide_eq_true_eq] at hok
  exact hok.1
 have hy : y = ns m := by
  have hmem : ns m ∈ (ofN (joinN l) h).filter fun m => decide (m.n = (O.length : Int)) := by
   refine List.mem_filter.2 ⟨of_mem.2 ⟨by rw [← hP]; exact List.mem_map_of_mem hmP, hmc.1⟩, decide_eq_true hmc.2⟩
  have hy2 : y ∈ (ofN (joinN l) h).filter fun m => decide (m.n = (O.length : Int)) := List.mem_filter.2 ⟨List.mem_of_getElem? h1, decide_eq_true hyn⟩
  have hl1 : ((ofN (joinN l) h).filter fun m => decide (m.n = (O.length : Int))).length = 1 := by rw [← pf_len hP, ← hF]; exact hc
  obtain ⟨z, hz⟩ := List.length_eq_one_iff.1 hl1
  rw [hz] at hmem hy2
  rw [List.mem_singleton.1 hy2, List.mem_singleton.1 hmem]
 refine ⟨⟨by simp only [List.length_append, List.length_cons, List.length_nil]; omega, ?_, hk, fun q hq => ?_⟩, by simp⟩
 · rw [List.map_append, hI.o]
   simp only [List.length_append, List.length_cons, List.length_nil]
   rw [take_succ_get h1, hy]; rfl
 · simp only [List.length_append, List.length_cons, List.length_nil] at hq
   rcases Nat.lt_or_ge q O.length with h2 | h2
   · exact hI.k q h2
   · have : q = O.length := by omega
     rw [this]; exact hok
theorem pst_stop (hI : PstI (ofN (joinN l) h) O) (hP : P.map ns = joinN l) (hF : F = pstF h O.length P) (hs : ((!decide ((F.length : Int) = 1)) || !decide (check (nxtQ O F) = 0)) = true) : O.map ns = pastOfN (joinN l) h := by
 have h0 : check ((ofN (joinN l) h).take O.length) = 0 := by rw [← hI.o, check_ns]; exact hI.c
 rw [hI.o, past_of (join_up l)]
 unfold pastN
 congr 1
 by_cases hc : F.length = 1
 · have hok : okAt (ofN (joinN l) h) O.length = true := (pst_ok hI hP).2 (by rw [← hF]; exact hc)
   have hk : check (nxtQ O F) ≠ 0 := by
    intro e
    rw [e] at hs
    simp [hc] at hs
   have hle : O.length ≤ cntN (ofN (joinN l) h) := by
    rcases Nat.lt_or_ge (cntN (ofN (joinN l) h)) O.length with h1 | h1
    · have := hI.k _ h1
      rw [(cnt_spec (ofN (joinN l) h)).2] at this; cases this
    · exact h1
   refine (dwn_eq h0 _ hle fun k h1 h2 e => hk ?_).symm
   have h3 := check_take (j := O.length + 1) (by omega) e
   have hlt := ok_lt hok
   have h4 : (ofN (joinN l) h)[O.length]? = some ((ofN (joinN l) h)[O.length]'hlt) := List.getElem?_eq_getElem hlt
   generalize (ofN (joinN l) h)[O.length]'hlt = y at h4
   rw [take_succ_get h4, ← hI.o] at h3
   obtain ⟨m, hm⟩ : ∃ m, F = [m] := List.length_eq_one_iff.1 hc
   have hQ : nxtQ O F = O ++ [m] := by rw [hm]; rfl
   rw [hQ, ← check_ns, List.map_append]
   have hmF : m ∈ pstF h O.length P := by rw [← hF, hm]; exact List.mem_cons_self
   unfold pstF at hmF
   obtain ⟨hmP, hmc⟩ := List.mem_filter.1 hmF
   rw [Bool.and_eq_true, decide_eq_true_eq, decide_eq_true_eq] at hmc
   have hyn : y.n = (O.length : Int) := by
    unfold okAt at hok
    rw [h4] at hok
    simp only [Bool.and_eq_true, decide_eq_true_eq] at hok
    exact hok.1
   have hmem : ns m ∈ (ofN (joinN l) h).filter fun m => decide (m.n = (O.length : Int)) :=
    List.mem_filter.2 ⟨of_mem.2 ⟨by rw [← hP]; exact List.mem_map_of_mem hmP, hmc.1⟩, decide_eq_true hmc.2⟩
   have hy2 : y ∈ (ofN (joinN l) h).filter fun m => decide (m.n = (O.length : Int)) := List.mem_filter.2 ⟨List.mem_of_getElem? h4, decide_eq_true hyn⟩
   have hl1 : ((ofN (joinN l) h).filter fun m => decide (m.n = (O.length : Int))).length = 1 := by rw [← pf_len hP, ← hF]; exact hc
   obtain ⟨z, hz⟩ := List.length_eq_one_iff.1 hl1
   rw [hz] at hmem hy2
   have hy : y = ns m := by rw [List.mem_singleton.1 hy2, List.mem_singleton.1 hmem]
   rw [hy] at h3
   exact h3
 · have hno : okAt (ofN (joinN l) h) O.length = false := by
    cases e : okAt (ofN (joinN l) h) O.length
    · rfl
    · exact absurd (by rw [hF]; exact (pst_ok hI hP).1 e) hc
   rw [cnt_eq hI.k hno hI.l]
   exact (dwn_eq h0 _ (Nat.le_refl _) fun k h1 h2 => by omega).symm
end
end
section
open Go.RowKit
def PsTo (N : List NM) (w : World) (e : Ending) (w' : World) : Prop := ∃ A c, ∃ P : List NM, e = .returned (.slice A P.length c) ∧ P.map ns = N ∧ NtV w' (.slice A P.length c) P ∧ Only NoF w w'
theorem pq_1 {a b : Prop} [Decidable a] [Decidable b] (h : ((!decide a) || !decide b) = false) : a := by
 simp only [Bool.or_eq_false_iff, Bool.not_eq_false', decide_eq_true_eq] at h; exact h.1
theorem pq_2 {a b : Prop} [Decidable a] [Decidable b] (h : ((!decide a) || !decide b) = false) : b := by
 simp only [Bool.or_eq_false_iff, Bool.not_eq_false', decide_eq_true_eq] at h; exact h.2
theorem rPast_v_ {w : World} {l : List NM} {A : Option Addr} {c : Nat} (t : NtV w (.slice A l.length c) l) (hl : l.length ≤ 400000) (h : Int) : Calls Tryz.prog 16 [.slice A l.length c, .int .i64 h].toArray w (JnTo l (pastOfN (joinN l) h) w) := by
 refine calls_start Tryz.func16 rfl rfl ?_
 intro az Z
 rw [Tryz.ntmps16] at Z
 refine wp_seq_k fun _ k1 => wp_region_lit ?_
 refine L (r_as Z rfl) Z rfl ?_; clear Z az; intro az Z
 refine k1 _ _ (wp_seq_k fun _ k2 => wp_region_lit ?_)
 obtain ⟨A3, w4, hw, hA, r5, o6⟩ := made0 (w := w) (e := 43) (size := 5)
 refine L (r_bs0 Tryz.underlying22 Tryz.sizeOf43) Z rfl ?_
 rw [← hw, ← hA]; clear Z az; intro az Z
 clear hw hA
 refine L (r_as Z rfl) Z rfl ?_; clear Z az; intro az Z
 refine k2 _ _ (wp_seq_k fun _ k7 => wp_region_lit ?_)
 refine L (r_mv Z rfl) Z rfl ?_; clear Z az; intro az Z
 have hC16 := rJoin1_v (NtV.k t o6) (by omega)
 refine LC Z rfl rfl Tryz.call11 (hC16) rfl ?_
 rintro e w17 ⟨A8, c9, P10, rfl, hP11, hS12, hN13, hM14, o15⟩; refine ⟨_, rfl, ?_⟩
 clear Z az; intro az Z
 have nt18 : NtV w17 (.slice A8 (P10.length) c9) P10 := ⟨SliceOf.pl hS12, hN13⟩
 have hrt := joined_right hP11
 have hPl : P10.length ≤ 400000 := ns_len_le hP11 (Nat.le_trans (joinN_le _) hl)
 refine L (r_as Z rfl) Z rfl ?_; clear Z az; intro az Z
 refine k7 _ _ ?_
 refine wp_block ?_
 refine wp_loop_m (fun mz az W => ∃ O : List NM, ∃ Ao : Option Addr, ∃ co : Nat, mz = (ofN (joinN l) h).length - O.length ∧ Fr 57 [(1, .int .i64 (h)), (6, .slice A8 (P10.length) c9), (5, .slice Ao (O.length) co)] az ∧ (PstI (ofN (joinN l) h) O) ∧ (∀ y ∈ O, y ∈ l) ∧ Only NoF w17 W ∧ SliceOf (geB w.heap.size) 5 KN0.R W (.slice Ao O.length co) O) ?_ ?_
 ·
  have r19 := (ow_k r5 o15)
  exact ⟨_, [], A3, 0, rfl, Z.cut ⟨rfl, rfl, rfl, trivial⟩, (pst_start _), (fun y hy => by cases hy), (Only.refl NoF w17), (SliceOf.sup (Row.own KN0 r19 (fun _ _ => trivial)) (fun k hk => Nat.le_trans (Nat.le_refl _) hk))⟩
 clear Z az
 rintro mz az w20 ⟨O, Ao, co, hm22, Z, hI, hOm, o21, hT⟩
 have O23 : Only NoF w w20 := (Only.trans' (Only.trans' o6 o15) o21)
 have ntO : NtV w20 (.slice Ao O.length co) O := ⟨SliceOf.pl hT, OkNs.k (fun y hy => t.2 y (hOm y hy)) O23⟩
 have hOl := hI.l; have hXl : (ofN (joinN l) h).length ≤ 400000 := Nat.le_trans (List.length_filter_le _ _) (Nat.le_trans (joinN_le l) hl)
 refine wp_block ?_
 refine wp_seq_k fun _ k24 => wp_region_lit ?_
 refine L (r_as Z rfl) Z rfl ?_; clear Z az; intro az Z
 refine k24 _ _ (wp_seq_k fun _ k25 => wp_region_lit ?_)
 refine L (r_mv Z rfl) Z rfl ?_; clear Z az; intro az Z
 refine L (r_as Z rfl) Z rfl ?_; clear Z az; intro az Z
 refine k25 _ _ (wp_seq_k fun _ k26 => ?_)
 refine wp_seq_k fun _ k27 => wp_region_lit ?_
 refine L (r_as Z rfl) Z rfl ?_; clear Z az; intro az Z
 refine k27 _ _ ?_
 refine wp_block ?_
 refine wp_loop_m (fun mz az W => ∃ i : Nat, ∃ cn : Nat, ∃ F : List NM, ∃ Aq : Option Addr, ∃ cq : Nat, mz = P10.length - i ∧ Fr 57 [(1, .int .i64 (h)), (5, .slice Ao (O.length) co), (6, .slice A8 (P10.length) c9), (9, .int .i64 ((i : Int))), (7, .int .i64 ((cn : Int))), (8, .slice Aq ((nxtQ O F).length) cq)] az ∧ (i ≤ P10.length) ∧ (F = pstF h O.length (List.take i P10)) ∧ (F.length ≤ i) ∧ (cn = F.length) ∧ (∀ y ∈ nxtQ O F, y ∈ l) ∧ Only NoF w20 W ∧ SliceOf (geB w.heap.size) 5 KN0.R W (.slice Aq (nxtQ O F).length cq) (nxtQ O F)) ?_ ?_
 ·
  exact ⟨_, 0, 0, [], Ao, co, rfl, Z.cut ⟨rfl, rfl, rfl, rfl, rfl, rfl, trivial⟩, Nat.zero_le _, rfl, Nat.le_refl _, rfl, (show ∀ y ∈ nxtQ O [], y ∈ l from hOm), (Only.refl NoF w20), (SliceOf.kp hT (Only.refl NoF w20) (fun _ _ h => h) (fun _ _ _ _ h => h))⟩
 clear Z az
 rintro mz az w28 ⟨i, cn, F, Aq, cq, hm30, Z, hi, hF, hFl, hcn, hQm, o29, hTq⟩
 have O31 : Only NoF w w28 := (Only.trans' O23 o29)
 have ntQ : NtV w28 (.slice Aq (nxtQ O F).length cq) (nxtQ O F) := ⟨SliceOf.pl hTq, OkNs.k (fun y hy => t.2 y (hQm y hy)) O31⟩
 refine wp_seq_k fun _ k32 => ?_
 refine wp_seq_k fun _ k33 => wp_region_lit ?_
 refine L (r_mv Z rfl) Z rfl ?_; clear Z az; intro az Z
 refine L (r_mv Z rfl) Z rfl ?_; clear Z az; intro az Z
 refine L (r_lenL Tryz.underlying22 Z rfl) Z rfl ?_; clear Z az; intro az Z
 refine L (r_ltI Z rfl rfl) Z rfl ?_; clear Z az; intro az Z
 refine k33 _ _ ?_
 refine br Z rfl (fun hc34 => ?_) (fun hc34 => ?_)
 ·
  have p35 := of_decide_eq_true hc34
  refine wp_skip ?_
  refine k32 _ _ (wp_seq_k fun _ k36 => ?_)
  refine wp_block ?_
  refine wp_seq_k fun _ k37 => wp_region_lit ?_
  refine L (r_mv Z rfl) Z rfl ?_; clear Z az; intro az Z
  refine L (r_mv Z rfl) Z rfl ?_; clear Z az; intro az Z
  have hk38 : i < (P10).length := by omega
  have O44 : Only NoF w17 w28 := (Only.trans' o21 o29)
  have h45 := (SliceOf.kp hS12 O44 (fun _ _ h => h) (fun _ _ _ _ h => h))
  obtain ⟨m39, hm40, ok41, hA42⟩ := Row.el KN0 h45 hk38
  have E43 : ∀ W, Only NoF w28 W → CA W (eA A8 5 (i)) [.int .i64 (m39.h), .int .i64 (m39.n), .int .i64 (m39.d), .slice m39.A (m39.l.length) m39.c, strV (m39.s)] := Row.ce KN0 h45 hm40 rfl
  have hb46 := right_bnd (hrt _ (List.mem_of_getElem? hm40))
  refine L (r_ia (k := i) (size := 5) Tryz.underlying22 Tryz.sizeOf43 Z rfl rfl rfl hk38 hA42) Z rfl ?_; clear Z az; intro az Z
  refine L (r_fa (m' := 0) Tryz.underlying43 rfl Tryz.sizeOf3 rfl Z rfl rfl) Z rfl ?_; clear Z az; intro az Z
  refine L (r_ld Tryz.isAgg3 Z rfl ((E43 _ (Only.refl NoF w28)) 0 _ rfl)) Z rfl ?_; clear Z az; intro az Z
  refine L (r_mv Z rfl) Z rfl ?_; clear Z az; intro az Z
  refine L (r_eqI Z rfl rfl) Z rfl ?_; clear Z az; intro az Z
  refine L (r_mv Z rfl) Z rfl ?_; clear Z az; intro az Z
  refine LG Z rfl rfl gd_t (fun hb => r_mv Z rfl) rfl ?_; clear Z az; intro az Z
  refine LG Z rfl rfl gd_t (fun hb => r_mv Z rfl) rfl ?_; clear Z az; intro az Z
  refine LG Z rfl rfl gd_t (fun hb => r_ia (k := i) (size := 5) Tryz.underlying22 Tryz.sizeOf43 Z (evg hb rfl) (evg hb rfl) rfl hk38 hA42) rfl ?_; clear Z az; intro az Z
  refine LG Z rfl rfl gd_t (fun hb => r_fa (m' := 1) Tryz.underlying43 rfl Tryz.sizeOf3 rfl Z (evg hb rfl) rfl) rfl ?_; clear Z az; intro az Z
  refine LG Z rfl rfl gd_t (fun hb => r_ld Tryz.isAgg3 Z (evg hb rfl) ((E43 _ (Only.refl NoF w28)) 1 _ rfl)) rfl ?_; clear Z az; intro az Z
  refine LG Z rfl rfl gd_t (fun hb => r_mv Z rfl) rfl ?_; clear Z az; intro az Z
  refine LG Z rfl rfl gd_t (fun hb => r_lenL Tryz.underlying22 Z (evg hb rfl)) rfl ?_; clear Z az; intro az Z
  refine LG Z rfl rfl gd_t (fun hb => r_eqI Z (evg hb rfl) (evg hb rfl)) rfl ?_; clear Z az; intro az Z
  refine L (r_and Z rfl rfl rfl) Z rfl ?_; clear Z az; intro az Z
  refine k37 _ _ ?_
  refine br Z rfl (fun hc47 => ?_) (fun hc47 => ?_)
  ·
   have p48 := of_decide_eq_true (and_t hc47).1
   have p49 := of_decide_eq_true (and_t hc47).2
   refine wp_seq_k fun _ k50 => wp_region_lit ?_
   refine L (r_mv Z rfl) Z rfl ?_; clear Z az; intro az Z
   have i51 : I64 (((cn : Int) + 1)) := by unfold I64; omega
   refine L (r_addI (r := ((cn : Int) + 1)) Z rfl rfl rfl i51) Z rfl ?_; clear Z az; intro az Z
   refine L (r_as Z rfl) Z rfl ?_; clear Z az; intro az Z
   refine k50 _ _ ?_
   refine reg_p NoF 1 [0, 2, 7, 8] (.rd 1 (.rd 3 (.rd 4 (.rd 5 (.rd 6 (.fork 0 (.fork 2 (.ex 7 (.ex 8 (.rd 9 .nil))) 7 (.ex 2 (.ex 8 (.rd 9 .nil)))) 7 (.ex 0 (.ex 2 (.ex 8 (.rd 9 .nil)))))))))) (by kernel_rfl) (by kernel_rfl) (fun _ _ _ _ _ h => h) fun w52 o53 => ?_
   refine Pl.MSP (b := false) (by kernel_rfl) (fun W oW => r_mv Z rfl) Z rfl rfl ?_; clear Z az; intro az Z
   refine Pl.MSP (b := false) (by kernel_rfl) (fun W oW => r_mv Z rfl) Z rfl rfl ?_; clear Z az; intro az Z
   refine Pl.MSP (b := false) (by kernel_rfl) (fun W oW => r_mv Z rfl) Z rfl rfl ?_; clear Z az; intro az Z
   refine Pl.MSP (b := false) (by kernel_rfl) (fun W oW => r_ia (k := i) (size := 5) Tryz.underlying22 Tryz.sizeOf43 Z rfl rfl rfl hk38 hA42) Z rfl rfl ?_; clear Z az; intro az Z
   refine Pl.MSP (b := false) (by kernel_rfl) (fun W oW => r_ldA Tryz.isAgg43 Tryz.sizeOf43 Z rfl (E43 _ (Only.trans' o53 oW)) rfl) Z rfl rfl ?_; clear Z az; intro az Z
   refine wpPl_fork ?_ ?_
   ·
    obtain ⟨A54, w55, hw, hA, r56, o57⟩ := made0 (w := w52) (e := 43) (size := 5)
    refine Pl.MD (r_bs0 Tryz.underlying22 Tryz.sizeOf43) Z rfl rfl ?_ ?_
    · rw [← hw]; exact ⟨fun _ => o57, (Only.trans (Only.refl NoF w52) o57 (fun _ h => h.elim))⟩
    rw [← hw, ← hA]; clear Z az; intro az Z
    clear hw hA
    refine wpPl_fork ?_ ?_
    ·
     have O58 : Only NoF w20 w55 := (Only.trans' (Only.trans' o29 o53) o57)
     have h59 := (SliceOf.kp hT O58 (fun _ _ h => h) (fun _ _ _ _ h => h))
     have h60 := SliceOf.pl h59
     have hb68 : (List.length (([] : List NM)) + List.length (O)) * 64 ≤ 140737488355328 := by (simp only [List.length_append, List.length_cons, List.length_nil]; omega)
     obtain ⟨A61, c62, w63, hr64, r65, o66, al67⟩ := Row.app (P := Tryz.prog) (l := ([] : List NM)) (l2 := O) KN0 elemNote r56 h60 hb68 (by unfold maxLen; omega) (size_only o57)
     simp only [List.nil_append, List.append_nil] at hr64 r65 al67
     refine Pl.MD (r_app hr64 Z rfl rfl) Z rfl rfl ?_ ?_
     · exact ⟨fun h => absurd h (by decide), (Only.trans (Only.trans (Only.refl NoF w52) o57 (fun _ h => h.elim)) o66 (fun k h => .inr (Nat.le_trans (Nat.le_refl _) ((ownF_ge r56) k h))))⟩
     clear Z az; intro az Z
     have ok69 : ∀ zq ∈ O, KN0.ok zq := (Row.oks KN0 h60)
     have h70 := Row.own KN0 r65 ok69
     obtain ⟨A71, w72, hw, hA, r73, o74⟩ := Row.made (w := w63) KN0 (e := 43) ([m39] : List NM) (by simp only [List.length_cons, List.length_nil]; unfold maxLen; omega)
     refine Pl.MD (r_bs (z := .agg #[.int .i64 (0), .int .i64 (0), .int .i64 (0), .slice none (0) 0, strV ([])]) (size := 5) (vs := [(0, .agg #[.int .i64 (m39.h), .int .i64 (m39.n), .int .i64 (m39.d), .slice m39.A (m39.l.length) m39.c, strV (m39.s)])]) (cs := List.flatMap KN0.cells [m39]) Tryz.underlying22 Tryz.sizeOf43 Tryz.zeroValue43 rfl (Fr.evalps Z rfl) (by kernel_rfl)) Z rfl rfl ?_ ?_
     · rw [← hw]; exact ⟨fun h => absurd h (by decide), (Only.trans (Only.trans (Only.trans (Only.refl NoF w52) o57 (fun _ h => h.elim)) o66 (fun k h => .inr (Nat.le_trans (Nat.le_refl _) ((ownF_ge r56) k h)))) o74 (fun _ h => h.elim))⟩
     rw [← hw, ← hA]; clear Z az; intro az Z
     clear hw hA
     have ok75 : ∀ zq ∈ ([m39] : List NM), KN0.ok zq := by intro zq hx; simp only [List.mem_cons, List.not_mem_nil, or_false] at hx; rcases hx with rfl <;> first | exact trivial
     have r76 := (ow_k r65 o74)
     have h77 := SliceOf.pl (Row.own KN0 r73 ok75)
     have hb85 : (List.length (O) + List.length ([m39])) * 64 ≤ 140737488355328 := by (simp only [List.length_append, List.length_cons, List.length_nil]; omega)
     have O86 : Only NoF w52 w72 := (Only.trans' (o_sg o57 o66 (Nat.le_refl _) (ownF_ge r56)) o74)
     obtain ⟨A78, c79, w80, hr81, r82, o83, al84⟩ := Row.app (P := Tryz.prog) (l := O) (l2 := [m39]) KN0 elemNote r76 h77 hb85 (by unfold maxLen; omega) (size_only O86)
     refine Pl.MD (r_app hr81 Z rfl rfl) Z rfl rfl ?_ ?_
     · exact ⟨fun h => absurd h (by decide), (Only.trans (Only.trans (Only.trans (Only.trans (Only.refl NoF w52) o57 (fun _ h => h.elim)) o66 (fun k h => .inr (Nat.le_trans (Nat.le_refl _) ((ownF_ge r56) k h)))) o74 (fun _ h => h.elim)) o83 (fun k h => .inr (Nat.le_trans (Nat.le_refl _) ((ownF_ge r65) k h))))⟩
     clear Z az; intro az Z
     have ok87 : ∀ zq ∈ (O ++ [m39]), KN0.ok zq := (fun x hx => (List.mem_append.1 hx).elim (ok69 x) ((Row.oks KN0 h77) x))
     have h88 := Row.own KN0 r82 ok87
     refine Pl.MSP (b := false) (by kernel_rfl) (fun W oW => r_as Z rfl) Z rfl rfl ?_; clear Z az; intro az Z
     refine wpPl_nil ?_
     refine k36 _ _ ?_
     refine wp_region_lit ?_
     refine L (r_mv Z rfl) Z rfl ?_; clear Z az; intro az Z
     have i89 : I64 (((i : Int) + 1)) := by unfold I64; omega
     refine L (r_addI (r := ((i : Int) + 1)) Z rfl rfl rfl i89) Z rfl ?_; clear Z az; intro az Z
     refine L (r_as Z rfl) Z rfl ?_; clear Z az; intro az Z
     have O92 : Only NoF w w52 := (Only.trans' O31 o53)
     have nq90 : SliceOf (geB w.heap.size) 5 KN0.R w80 (.slice A78 (nxtQ O (F ++ [m39])).length c79) (nxtQ O (F ++ [m39])) := by rw [← nx_snoc]; exact SliceOf.sup (Row.own KN0 r82 (fun _ _ => trivial)) (fun k hk => Nat.le_trans (size_only O92) hk)
     have nm91 : ∀ y ∈ nxtQ O (F ++ [m39]), y ∈ l := by rw [← nx_snoc]; exact fun y hy => (List.mem_append.1 hy).elim (hOm y) (fun h => by rw [List.mem_singleton.1 h]; exact hM14 _ (List.mem_of_getElem? hm40))
     rw [show (O ++ [m39]).length = (nxtQ O (F ++ [m39])).length by rw [← nx_snoc]] at Z
     have O93 : Only NoF w20 w52 := (Only.trans' o29 o53)
     have O94 : Only NoF w20 w80 := (o_sg (Only.trans' (o_sg O58 o66 (size_only O93) (ownF_ge r56)) o74) o83 (size_only O93) (ownF_ge r65))
     exact ⟨_, (by omega), i + 1, cn + 1, (F ++ [m39]), A78, c79, rfl, Z.cut ⟨rfl, rfl, rfl, rfl, rfl, rfl, trivial⟩, (by omega), (pf_yes hm40 hc47 hF), (by simp only [List.length_append, List.length_cons, List.length_nil]; omega), (by simp only [List.length_append, List.length_cons, List.length_nil]; omega), nm91, O94, (SliceOf.kp nq90 (Only.refl NoF w80) (fun _ _ h => h) (fun _ _ _ _ h => h))⟩
    ·
     obtain ⟨A95, w96, hw, hA, r97, o98⟩ := Row.made (w := w55) KN0 (e := 43) ([m39] : List NM) (by simp only [List.length_cons, List.length_nil]; unfold maxLen; omega)
     refine Pl.MD (r_bs (z := .agg #[.int .i64 (0), .int .i64 (0), .int .i64 (0), .slice none (0) 0, strV ([])]) (size := 5) (vs := [(0, .agg #[.int .i64 (m39.h), .int .i64 (m39.n), .int .i64 (m39.d), .slice m39.A (m39.l.length) m39.c, strV (m39.s)])]) (cs := List.flatMap KN0.cells [m39]) Tryz.underlying22 Tryz.sizeOf43 Tryz.zeroValue43 rfl (Fr.evalps Z rfl) (by kernel_rfl)) Z rfl rfl ?_ ?_
     · rw [← hw]; exact ⟨fun h => absurd h (by decide), (Only.trans (Only.trans (Only.refl NoF w52) o57 (fun _ h => h.elim)) o98 (fun _ h => h.elim))⟩
     rw [← hw, ← hA]; clear Z az; intro az Z
     clear hw hA
     have ok99 : ∀ zq ∈ ([m39] : List NM), KN0.ok zq := by intro zq hx; simp only [List.mem_cons, List.not_mem_nil, or_false] at hx; rcases hx with rfl <;> first | exact trivial
     have r100 := (ow_k r56 o98)
     have O101 : Only NoF w20 w96 := (Only.trans' (Only.trans' (Only.trans' o29 o53) o57) o98)
     have h102 := (SliceOf.kp hT O101 (fun _ _ h => h) (fun _ _ _ _ h => h))
     have h103 := SliceOf.pl h102
     have hb111 : (List.length (([] : List NM)) + List.length (O)) * 64 ≤ 140737488355328 := by (simp only [List.length_append, List.length_cons, List.length_nil]; omega)
     have O112 : Only NoF w52 w96 := (Only.trans' o57 o98)
     obtain ⟨A104, c105, w106, hr107, r108, o109, al110⟩ := Row.app (P := Tryz.prog) (l := ([] : List NM)) (l2 := O) KN0 elemNote r100 h103 hb111 (by unfold maxLen; omega) (size_only O112)
     simp only [List.nil_append, List.append_nil] at hr107 r108 al110
     refine Pl.MD (r_app hr107 Z rfl rfl) Z rfl rfl ?_ ?_
     · exact ⟨fun h => absurd h (by decide), (Only.trans (Only.trans (Only.trans (Only.refl NoF w52) o57 (fun _ h => h.elim)) o98 (fun _ h => h.elim)) o109 (fun k h => .inr (Nat.le_trans (Nat.le_refl _) ((ownF_ge r56) k h))))⟩
     clear Z az; intro az Z
     have ok113 : ∀ zq ∈ O, KN0.ok zq := (Row.oks KN0 h103)
     have h114 := Row.own KN0 r108 ok113
     have r116 := (ow_only r97 o109 (fun k hk => ge_F (ownF_lt r56) (Nat.le_refl _) k (ownF_ge r97 k hk)))
     have h115 := SliceOf.pl (Row.own KN0 r116 ok99)
     have hb124 : (List.length (O) + List.length ([m39])) * 64 ≤ 140737488355328 := by (simp only [List.length_append, List.length_cons, List.length_nil]; omega)
     have O125 : Only NoF w52 w106 := (o_sg O112 o109 (Nat.le_refl _) (ownF_ge r56))
     obtain ⟨A117, c118, w119, hr120, r121, o122, al123⟩ := Row.app (P := Tryz.prog) (l := O) (l2 := [m39]) KN0 elemNote r108 h115 hb124 (by unfold maxLen; omega) (size_only O125)
     refine Pl.MD (r_app hr120 Z rfl rfl) Z rfl rfl ?_ ?_
     · exact ⟨fun h => absurd h (by decide), (Only.trans (Only.trans (Only.trans (Only.trans (Only.refl NoF w52) o57 (fun _ h => h.elim)) o98 (fun _ h => h.elim)) o109 (fun k h => .inr (Nat.le_trans (Nat.le_refl _) ((ownF_ge r56) k h)))) o122 (fun k h => .inr (Nat.le_trans (Nat.le_refl _) ((ownF_ge r108) k h))))⟩
     clear Z az; intro az Z
     have ok126 : ∀ zq ∈ (O ++ [m39]), KN0.ok zq := (fun x hx => (List.mem_append.1 hx).elim (ok113 x) ((Row.oks KN0 h115) x))
     have h127 := Row.own KN0 r121 ok126
     refine Pl.MSP (b := false) (by kernel_rfl) (fun W oW => r_as Z rfl) Z rfl rfl ?_; clear Z az; intro az Z
     refine wpPl_nil ?_
     refine k36 _ _ ?_
     refine wp_region_lit ?_
     refine L (r_mv Z rfl) Z rfl ?_; clear Z az; intro az Z
     have i128 : I64 (((i : Int) + 1)) := by unfold I64; omega
     refine L (r_addI (r := ((i : Int) + 1)) Z rfl rfl rfl i128) Z rfl ?_; clear Z az; intro az Z
     refine L (r_as Z rfl) Z rfl ?_; clear Z az; intro az Z
     have O131 : Only NoF w w52 := (Only.trans' O31 o53)
     have nq129 : SliceOf (geB w.heap.size) 5 KN0.R w119 (.slice A117 (nxtQ O (F ++ [m39])).length c118) (nxtQ O (F ++ [m39])) := by rw [← nx_snoc]; exact SliceOf.sup (Row.own KN0 r121 (fun _ _ => trivial)) (fun k hk => Nat.le_trans (size_only O131) hk)
     have nm130 : ∀ y ∈ nxtQ O (F ++ [m39]), y ∈ l := by rw [← nx_snoc]; exact fun y hy => (List.mem_append.1 hy).elim (hOm y) (fun h => by rw [List.mem_singleton.1 h]; exact hM14 _ (List.mem_of_getElem? hm40))
     rw [show (O ++ [m39]).length = (nxtQ O (F ++ [m39])).length by rw [← nx_snoc]] at Z
     have O132 : Only NoF w20 w52 := (Only.trans' o29 o53)
     have O133 : Only NoF w20 w119 := (o_sg (o_sg O101 o109 (size_only O132) (ownF_ge r56)) o122 (size_only O132) (ownF_ge r108))
     exact ⟨_, (by omega), i + 1, cn + 1, (F ++ [m39]), A117, c118, rfl, Z.cut ⟨rfl, rfl, rfl, rfl, rfl, rfl, trivial⟩, (by omega), (pf_yes hm40 hc47 hF), (by simp only [List.length_append, List.length_cons, List.length_nil]; omega), (by simp only [List.length_append, List.length_cons, List.length_nil]; omega), nm130, O133, (SliceOf.kp nq129 (Only.refl NoF w119) (fun _ _ h => h) (fun _ _ _ _ h => h))⟩
   ·
    obtain ⟨A134, w135, hw, hA, r136, o137⟩ := Row.made (w := w52) KN0 (e := 43) ([m39] : List NM) (by simp only [List.length_cons, List.length_nil]; unfold maxLen; omega)
    refine Pl.MD (r_bs (z := .agg #[.int .i64 (0), .int .i64 (0), .int .i64 (0), .slice none (0) 0, strV ([])]) (size := 5) (vs := [(0, .agg #[.int .i64 (m39.h), .int .i64 (m39.n), .int .i64 (m39.d), .slice m39.A (m39.l.length) m39.c, strV (m39.s)])]) (cs := List.flatMap KN0.cells [m39]) Tryz.underlying22 Tryz.sizeOf43 Tryz.zeroValue43 rfl (Fr.evalps Z rfl) (by kernel_rfl)) Z rfl rfl ?_ ?_
    · rw [← hw]; exact ⟨fun _ => o137, (Only.trans (Only.refl NoF w52) o137 (fun _ h => h.elim))⟩
    rw [← hw, ← hA]; clear Z az; intro az Z
    clear hw hA
    have ok138 : ∀ zq ∈ ([m39] : List NM), KN0.ok zq := by intro zq hx; simp only [List.mem_cons, List.not_mem_nil, or_false] at hx; rcases hx with rfl <;> first | exact trivial
    obtain ⟨A139, w140, hw, hA, r141, o142⟩ := made0 (w := w135) (e := 43) (size := 5)
    refine Pl.MD (r_bs0 Tryz.underlying22 Tryz.sizeOf43) Z rfl rfl ?_ ?_
    · rw [← hw]; exact ⟨fun h => absurd h (by decide), (Only.trans (Only.trans (Only.refl NoF w52) o137 (fun _ h => h.elim)) o142 (fun _ h => h.elim))⟩
    rw [← hw, ← hA]; clear Z az; intro az Z
    clear hw hA
    have O143 : Only NoF w20 w140 := (Only.trans' (Only.trans' (Only.trans' o29 o53) o137) o142)
    have h144 := (SliceOf.kp hT O143 (fun _ _ h => h) (fun _ _ _ _ h => h))
    have h145 := SliceOf.pl h144
    have hb153 : (List.length (([] : List NM)) + List.length (O)) * 64 ≤ 140737488355328 := by (simp only [List.length_append, List.length_cons, List.length_nil]; omega)
    obtain ⟨A146, c147, w148, hr149, r150, o151, al152⟩ := Row.app (P := Tryz.prog) (l := ([] : List NM)) (l2 := O) KN0 elemNote r141 h145 hb153 (by unfold maxLen; omega) (size_only o142)
    simp only [List.nil_append, List.append_nil] at hr149 r150 al152
    refine Pl.MD (r_app hr149 Z rfl rfl) Z rfl rfl ?_ ?_
    · exact ⟨fun h => absurd h (by decide), (Only.trans (Only.trans (Only.trans (Only.refl NoF w52) o137 (fun _ h => h.elim)) o142 (fun _ h => h.elim)) o151 (fun k h => .inr (Nat.le_trans (size_only o137) ((ownF_ge r141) k h))))⟩
    clear Z az; intro az Z
    have ok154 : ∀ zq ∈ O, KN0.ok zq := (Row.oks KN0 h145)
    have h155 := Row.own KN0 r150 ok154
    have r157 := (ow_only (ow_k r136 o142) o151 (fun k hk => lt_F (ownF_ge r141) (Nat.le_refl _) k (ownF_lt r136 k hk)))
    have h156 := SliceOf.pl (Row.own KN0 r157 ok138)
    have hb165 : (List.length (O) + List.length ([m39])) * 64 ≤ 140737488355328 := by (simp only [List.length_append, List.length_cons, List.length_nil]; omega)
    have O166 : Only NoF w135 w148 := (o_sg o142 o151 (Nat.le_refl _) (ownF_ge r141))
    obtain ⟨A158, c159, w160, hr161, r162, o163, al164⟩ := Row.app (P := Tryz.prog) (l := O) (l2 := [m39]) KN0 elemNote r150 h156 hb165 (by unfold maxLen; omega) (size_only O166)
    refine Pl.MD (r_app hr161 Z rfl rfl) Z rfl rfl ?_ ?_
    · exact ⟨fun h => absurd h (by decide), (Only.trans (Only.trans (Only.trans (Only.trans (Only.refl NoF w52) o137 (fun _ h => h.elim)) o142 (fun _ h => h.elim)) o151 (fun k h => .inr (Nat.le_trans (size_only o137) ((ownF_ge r141) k h)))) o163 (fun k h => .inr (Nat.le_trans (size_only o137) ((ownF_ge r150) k h))))⟩
    clear Z az; intro az Z
    have ok167 : ∀ zq ∈ (O ++ [m39]), KN0.ok zq := (fun x hx => (List.mem_append.1 hx).elim (ok154 x) ((Row.oks KN0 h156) x))
    have h168 := Row.own KN0 r162 ok167
    refine Pl.MSP (b := false) (by kernel_rfl) (fun W oW => r_as Z rfl) Z rfl rfl ?_; clear Z az; intro az Z
    refine wpPl_nil ?_
    refine k36 _ _ ?_
    refine wp_region_lit ?_
    refine L (r_mv Z rfl) Z rfl ?_; clear Z az; intro az Z
    have i169 : I64 (((i : Int) + 1)) := by unfold I64; omega
    refine L (r_addI (r := ((i : Int) + 1)) Z rfl rfl rfl i169) Z rfl ?_; clear Z az; intro az Z
    refine L (r_as Z rfl) Z rfl ?_; clear Z az; intro az Z
    have O172 : Only NoF w w135 := (Only.trans' (Only.trans' O31 o53) o137)
    have nq170 : SliceOf (geB w.heap.size) 5 KN0.R w160 (.slice A158 (nxtQ O (F ++ [m39])).length c159) (nxtQ O (F ++ [m39])) := by rw [← nx_snoc]; exact SliceOf.sup (Row.own KN0 r162 (fun _ _ => trivial)) (fun k hk => Nat.le_trans (size_only O172) hk)
    have nm171 : ∀ y ∈ nxtQ O (F ++ [m39]), y ∈ l := by rw [← nx_snoc]; exact fun y hy => (List.mem_append.1 hy).elim (hOm y) (fun h => by rw [List.mem_singleton.1 h]; exact hM14 _ (List.mem_of_getElem? hm40))
    rw [show (O ++ [m39]).length = (nxtQ O (F ++ [m39])).length by rw [← nx_snoc]] at Z
    have O173 : Only NoF w20 w135 := (Only.trans' (Only.trans' o29 o53) o137)
    have O174 : Only NoF w20 w160 := (o_sg (o_sg O143 o151 (size_only O173) (ownF_ge r141)) o163 (size_only O173) (ownF_ge r150))
    exact ⟨_, (by omega), i + 1, cn + 1, (F ++ [m39]), A158, c159, rfl, Z.cut ⟨rfl, rfl, rfl, rfl, rfl, rfl, trivial⟩, (by omega), (pf_yes hm40 hc47 hF), (by simp only [List.length_append, List.length_cons, List.length_nil]; omega), (by simp only [List.length_append, List.length_cons, List.length_nil]; omega), nm171, O174, (SliceOf.kp nq170 (Only.refl NoF w160) (fun _ _ h => h) (fun _ _ _ _ h => h))⟩
  ·
   have d175 := hc47
   refine wp_skip ?_
   refine k36 _ _ ?_
   refine wp_region_lit ?_
   refine L (r_mv Z rfl) Z rfl ?_; clear Z az; intro az Z
   have i176 : I64 (((i : Int) + 1)) := by unfold I64; omega
   refine L (r_addI (r := ((i : Int) + 1)) Z rfl rfl rfl i176) Z rfl ?_; clear Z az; intro az Z
   refine L (r_as Z rfl) Z rfl ?_; clear Z az; intro az Z
   exact ⟨_, (by omega), i + 1, cn, F, Aq, cq, rfl, Z.cut ⟨rfl, rfl, rfl, rfl, rfl, rfl, trivial⟩, (by omega), (pf_no hm40 hc47 hF), (by omega), hcn, hQm, o29, (SliceOf.kp hTq (Only.refl NoF w28) (fun _ _ h => h) (fun _ _ _ _ h => h))⟩
 ·
  have p177 := of_decide_eq_false hc34
  rw [List.take_of_length_le (by omega)] at hF
  refine wp_exit ?_
  refine th_exit ?_
  refine th_exit ?_
  refine ib_hit ?_
  refine k26 _ _ (wp_seq_k fun _ k178 => ?_)
  refine wp_seq_k fun _ k179 => wp_region_lit ?_
  refine L (r_mv Z rfl) Z rfl ?_; clear Z az; intro az Z
  refine L (r_neI Z rfl rfl) Z rfl ?_; clear Z az; intro az Z
  refine L (r_mv Z rfl) Z rfl ?_; clear Z az; intro az Z
  refine LG Z rfl rfl gd_f (fun hb => r_mv Z rfl) rfl ?_; clear Z az; intro az Z
  refine LGV (v := .int .i64 (check (nxtQ O F))) Z rfl rfl gd_f rfl (fun hb => (evs_c (evg hb rfl) rfl)) Tryz.call40 (fun hb => rCheck_v (NtV.notes ntQ)) rfl fun w180 o181 => ?_; clear Z az; intro az Z
  refine LG Z rfl rfl gd_f (fun hb => r_neI Z (evg hb rfl) rfl) rfl ?_; clear Z az; intro az Z
  refine L (r_or Z rfl rfl rfl) Z rfl ?_; clear Z az; intro az Z
  refine k179 _ _ ?_
  refine br Z rfl (fun hc182 => ?_) (fun hc182 => ?_)
  ·
   have d183 := hc182
   refine wp_seq_k fun _ k184 => wp_region_lit ?_
   refine L (r_mv Z rfl) Z rfl ?_; clear Z az; intro az Z
   refine L (r_as Z rfl) Z rfl ?_; clear Z az; intro az Z
   refine k184 _ _ ?_
   refine wp_ret ?_
   show bodyPost _ _ _ .ret _ _
   refine ret_of (vs := [.slice Ao (O.length) co]) Z Tryz.results16 ⟨rfl, trivial⟩ ?_
   rw [hcn] at hc182
   have O185 : Only NoF w20 w180 := (Only.trans' o29 o181)
   have O186 : Only NoF w w180 := (Only.trans' O31 o181)
   exact ⟨_, _, O, rfl, pst_stop hI hP11 hF hc182, (SliceOf.kp hT O185 (fun _ _ h => h) (fun _ _ _ _ h => h)), OkNs.k (fun y hy => t.2 y (hOm y hy)) O186, hOm, O186⟩
  ·
   have p187 := of_decide_eq_true (nt_f (or_f hc182).1)
   have p188 := of_decide_eq_true (nt_f (or_f hc182).2)
   refine wp_skip ?_
   refine k178 _ _ ?_
   refine wp_region_lit ?_
   refine L (r_mv Z rfl) Z rfl ?_; clear Z az; intro az Z
   refine L (r_as Z rfl) Z rfl ?_; clear Z az; intro az Z
   rw [hcn] at hc182
   have hgo := pst_go hI hP11 hF (by have h5 := pq_1 hc182; omega) (pq_2 hc182)
   have O190 : Only NoF w17 w180 := (Only.trans' (Only.trans' o21 o29) o181)
   exact ⟨_, (by have h5 := hgo.1.l; have h6 := hgo.2; omega), nxtQ O F, Aq, cq, rfl, Z.cut ⟨rfl, rfl, rfl, trivial⟩, hgo.1, hQm, O190, (SliceOf.kp hTq o181 (fun _ _ h => h) (fun _ _ _ _ h => h))⟩
end
section
open Go.RowKit
def RTkTo (a b : List NM) (w : World) (e : Ending) (w' : World) : Prop := ∃ A1 c1, ∃ P : List NM, ∃ A2 c2, ∃ Q : List NM, e = .returned (.tuple #[.slice A1 P.length c1, .slice A2 Q.length c2]) ∧ P.map ns = lessN (joinN b) (joinN a) ∧ Q.map ns = lessN (joinN a) (joinN b) ∧ NtV w' (.slice A1 P.length c1) P ∧ NtV w' (.slice A2 Q.length c2) Q ∧ Only NoF w w'
section
variable {a b O : List NM} {i : Nat} {m : NM}
theorem ls_yes (hm : a[i]? = some m) (h : (!hasN b m) = true) (hO : O = (a.take i).filter (fun x => !hasN b x)) : O ++ [m] = (a.take (i + 1)).filter (fun x => !hasN b x) := by
 rw [take_succ_get hm, List.filter_append, ← hO]; simp [h]
theorem ls_no (hm : a[i]? = some m) (h : (!hasN b m) = false) (hO : O = (a.take i).filter (fun x => !hasN b x)) : O = (a.take (i + 1)).filter (fun x => !hasN b x) := by
 rw [take_succ_get hm, List.filter_append, ← hO]; simp [h]
theorem ls_end (a b : List NM) : (a.filter (fun x => !hasN b x)).map ns = lessN (a.map ns) (b.map ns) := by
 unfold lessN
 rw [List.filter_map]
 congr 1
 refine List.filter_congr fun x _ => ?_
 show (!decide (ns x ∈ b.map ns)) = decide (¬ ns x ∈ b.map ns)
 rw [decide_not]
end
theorem rLess39_v_ {w : World} {a b : List NM} {A1 A2 : Option Addr} {c1 c2 : Nat} (t1 : NtV w (.slice A1 a.length c1) a) (t2 : NtV w (.slice A2 b.length c2) b) (hl : a.length ≤ 400000) : Calls Tryz.prog 32 [.slice A1 a.length c1, .slice A2 b.length c2].toArray w (PsTo (lessN (a.map ns) (b.map ns)) w) := by
 refine calls_start Tryz.func32 rfl rfl ?_
 intro az Z
 rw [Tryz.ntmps32] at Z
 refine wp_seq_k fun _ k1 => wp_region_lit ?_
 refine L (r_as Z rfl) Z rfl ?_; clear Z az; intro az Z
 refine k1 _ _ (wp_seq_k fun _ k2 => wp_region_lit ?_)
 obtain ⟨A3, w4, hw, hA, r5, o6⟩ := made0 (w := w) (e := 43) (size := 5)
 refine L (r_bs0 Tryz.underlying22 Tryz.sizeOf43) Z rfl ?_
 rw [← hw, ← hA]; clear Z az; intro az Z
 clear hw hA
 refine L (r_as Z rfl) Z rfl ?_; clear Z az; intro az Z
 refine k2 _ _ (wp_seq_k fun _ k7 => ?_)
 refine wp_seq_k fun _ k8 => wp_region_lit ?_
 refine L (r_as Z rfl) Z rfl ?_; clear Z az; intro az Z
 refine k8 _ _ ?_
 refine wp_block ?_
 refine wp_loop_m (fun mz az W => ∃ i : Nat, ∃ O : List NM, ∃ Ao : Option Addr, ∃ co : Nat, mz = a.length - i ∧ Fr 29 [(0, .slice A1 (a.length) c1), (1, .slice A2 (b.length) c2), (6, .int .i64 ((i : Int))), (5, .slice Ao (O.length) co)] az ∧ (i ≤ a.length) ∧ (O = (a.take i).filter (fun x => !hasN b x)) ∧ Only NoF w W ∧ W.ownsRow w.heap.size 43 5 (.slice Ao O.length co) O.length (List.flatMap KN0.cells O)) ?_ ?_
 ·
  exact ⟨_, 0, [], A3, 0, rfl, Z.cut ⟨rfl, rfl, rfl, rfl, trivial⟩, Nat.zero_le _, rfl, o6, r5⟩
 clear Z az
 rintro mz az w9 ⟨i, O, Ao, co, hm11, Z, hi, hO, o10, rO⟩
 have hOl : O.length ≤ i := by rw [hO]; exact Nat.le_trans (List.length_filter_le _ _) (by rw [List.length_take]; omega)
 refine wp_seq_k fun _ k12 => ?_
 refine wp_seq_k fun _ k13 => wp_region_lit ?_
 refine L (r_mv Z rfl) Z rfl ?_; clear Z az; intro az Z
 refine L (r_mv Z rfl) Z rfl ?_; clear Z az; intro az Z
 refine L (r_lenL Tryz.underlying22 Z rfl) Z rfl ?_; clear Z az; intro az Z
 refine L (r_ltI Z rfl rfl) Z rfl ?_; clear Z az; intro az Z
 refine k13 _ _ ?_
 refine br Z rfl (fun hc14 => ?_) (fun hc14 => ?_)
 ·
  have p15 := of_decide_eq_true hc14
  refine wp_skip ?_
  refine k12 _ _ (wp_seq_k fun _ k16 => ?_)
  refine wp_block ?_
  refine wp_seq_k fun _ k17 => wp_region_lit ?_
  refine L (r_mv Z rfl) Z rfl ?_; clear Z az; intro az Z
  refine L (r_mv Z rfl) Z rfl ?_; clear Z az; intro az Z
  refine L (r_mv Z rfl) Z rfl ?_; clear Z az; intro az Z
  have hk18 : i < (a).length := by omega
  have h24 := (SliceOf.kp t1.1 o10 (fun _ _ h => h) (fun _ _ _ _ h => h))
  obtain ⟨m19, hm20, ok21, hA22⟩ := Row.el KN0 h24 hk18
  have E23 : ∀ W, Only NoF w9 W → CA W (eA A1 5 (i)) [.int .i64 (m19.h), .int .i64 (m19.n), .int .i64 (m19.d), .slice m19.A (m19.l.length) m19.c, strV (m19.s)] := Row.ce KN0 h24 hm20 rfl
  refine L (r_ia (k := i) (size := 5) Tryz.underlying22 Tryz.sizeOf43 Z rfl rfl rfl hk18 hA22) Z rfl ?_; clear Z az; intro az Z
  refine L (r_ldA Tryz.isAgg43 Tryz.sizeOf43 Z rfl (E23 _ (Only.refl NoF w9)) rfl) Z rfl ?_; clear Z az; intro az Z
  have h25 := (SliceOf.kp (t1.2 _ (List.mem_of_getElem? hm20)).2.2.2.1 o10 (fun _ _ h => h) (fun _ _ _ _ h => h))
  refine LCV (v := .bool (hasN b m19)) Z rfl rfl Tryz.call28 (has39_v_ (NtV.k t2 o10) (x := m19) (okN.k (t1.2 _ (List.mem_of_getElem? hm20)) o10)) rfl fun w26 o27 => ?_; clear Z az; intro az Z
  refine L (r_not Z rfl) Z rfl ?_; clear Z az; intro az Z
  refine k17 _ _ ?_
  refine br Z rfl (fun hc28 => ?_) (fun hc28 => ?_)
  ·
   have q29 : hasN b m19 = false := (nt_t hc28)
   refine wp_region_lit ?_
   refine L (r_mv Z rfl) Z rfl ?_; clear Z az; intro az Z
   refine L (r_mv Z rfl) Z rfl ?_; clear Z az; intro az Z
   refine L (r_mv Z rfl) Z rfl ?_; clear Z az; intro az Z
   refine L (r_ia (k := i) (size := 5) Tryz.underlying22 Tryz.sizeOf43 Z rfl rfl rfl hk18 hA22) Z rfl ?_; clear Z az; intro az Z
   refine L (r_ldA Tryz.isAgg43 Tryz.sizeOf43 Z rfl (E23 _ o27) rfl) Z rfl ?_; clear Z az; intro az Z
   obtain ⟨A30, w31, hw, hA, r32, o33⟩ := Row.made (w := w26) KN0 (e := 43) ([m19] : List NM) (by simp only [List.length_cons, List.length_nil]; unfold maxLen; omega)
   refine L (r_bs (z := .agg #[.int .i64 (0), .int .i64 (0), .int .i64 (0), .slice none (0) 0, strV ([])]) (size := 5) (vs := [(0, .agg #[.int .i64 (m19.h), .int .i64 (m19.n), .int .i64 (m19.d), .slice m19.A (m19.l.length) m19.c, strV (m19.s)])]) (cs := List.flatMap KN0.cells [m19]) Tryz.underlying22 Tryz.sizeOf43 Tryz.zeroValue43 rfl (Fr.evalps Z rfl) (by kernel_rfl)) Z rfl ?_
   rw [← hw, ← hA]; clear Z az; intro az Z
   clear hw hA
   have ok34 : ∀ zq ∈ ([m19] : List NM), KN0.ok zq := by intro zq hx; simp only [List.mem_cons, List.not_mem_nil, or_false] at hx; rcases hx with rfl <;> first | exact trivial
   have r35 := (ow_k (ow_k rO o27) o33)
   have h36 := SliceOf.pl (Row.own KN0 r32 ok34)
   have hb44 : (List.length (O) + List.length ([m19])) * 64 ≤ 140737488355328 := by (simp only [List.length_append, List.length_cons, List.length_nil]; omega)
   have O45 : Only NoF w w31 := (Only.trans' (Only.trans' o10 o27) o33)
   obtain ⟨A37, c38, w39, hr40, r41, o42, al43⟩ := Row.app (P := Tryz.prog) (l := O) (l2 := [m19]) KN0 elemNote r35 h36 hb44 (by unfold maxLen; omega) (size_only O45)
   refine L (r_app hr40 Z rfl rfl) Z rfl ?_; clear Z az; intro az Z
   have ok46 : ∀ zq ∈ (O ++ [m19]), KN0.ok zq := (fun x hx => (List.mem_append.1 hx).elim ((fun _ _ => trivial) x) ((Row.oks KN0 h36) x))
   have h47 := Row.own KN0 r41 ok46
   refine L (r_as Z rfl) Z rfl ?_; clear Z az; intro az Z
   refine k16 _ _ ?_
   refine wp_region_lit ?_
   refine L (r_mv Z rfl) Z rfl ?_; clear Z az; intro az Z
   have i48 : I64 (((i : Int) + 1)) := by unfold I64; omega
   refine L (r_addI (r := ((i : Int) + 1)) Z rfl rfl rfl i48) Z rfl ?_; clear Z az; intro az Z
   refine L (r_as Z rfl) Z rfl ?_; clear Z az; intro az Z
   have O49 : Only NoF w w39 := (o_sg O45 o42 (Nat.le_refl _) (ownF_ge rO))
   exact ⟨_, (by omega), i + 1, (O ++ [m19]), A37, c38, rfl, Z.cut ⟨rfl, rfl, rfl, rfl, trivial⟩, (by omega), (ls_yes hm20 hc28 hO), O49, r41⟩
  ·
   have q50 : hasN b m19 = true := (nt_f hc28)
   refine wp_skip ?_
   refine k16 _ _ ?_
   refine wp_region_lit ?_
   refine L (r_mv Z rfl) Z rfl ?_; clear Z az; intro az Z
   have i51 : I64 (((i : Int) + 1)) := by unfold I64; omega
   refine L (r_addI (r := ((i : Int) + 1)) Z rfl rfl rfl i51) Z rfl ?_; clear Z az; intro az Z
   refine L (r_as Z rfl) Z rfl ?_; clear Z az; intro az Z
   have O52 : Only NoF w w26 := (Only.trans' o10 o27)
   have r53 := (ow_k rO o27)
   exact ⟨_, (by omega), i + 1, O, Ao, co, rfl, Z.cut ⟨rfl, rfl, rfl, rfl, trivial⟩, (by omega), (ls_no hm20 hc28 hO), O52, r53⟩
 ·
  have p54 := of_decide_eq_false hc14
  refine wp_exit ?_
  refine th_exit ?_
  refine th_exit ?_
  refine ib_hit ?_
  refine k7 _ _ (wp_seq_k fun _ k55 => wp_region_lit ?_)
  refine L (r_mv Z rfl) Z rfl ?_; clear Z az; intro az Z
  refine L (r_as Z rfl) Z rfl ?_; clear Z az; intro az Z
  refine k55 _ _ ?_
  refine wp_ret ?_
  show bodyPost _ _ _ .ret _ _
  refine ret_of (vs := [.slice Ao (O.length) co]) Z Tryz.results32 ⟨rfl, trivial⟩ ?_
  rw [List.take_of_length_le (by omega)] at hO; exact ⟨_, _, O, rfl, by rw [hO]; exact ls_end a b, ⟨SliceOf.pl (Row.own KN0 rO (fun _ _ => trivial)), OkNs.k (fun y hy => t1.2 y (by rw [hO] at hy; exact (List.mem_filter.1 hy).1)) o10⟩, o10⟩
theorem rTalk_v_ {w : World} {a b : List NM} {A1 A2 : Option Addr} {c1 c2 : Nat} (t1 : NtV w (.slice A1 a.length c1) a) (t2 : NtV w (.slice A2 b.length c2) b) (hl : a.length ≤ 400000) (hl2 : b.length ≤ 400000) : Calls Tryz.prog 8 [.slice A1 a.length c1, .slice A2 b.length c2].toArray w (RTkTo a b w) := by
 refine calls_start Tryz.func8 rfl rfl ?_
 intro az Z
 rw [Tryz.ntmps8] at Z
 refine wp_seq_k fun _ k1 => wp_region_lit ?_
 refine L (r_as Z rfl) Z rfl ?_; clear Z az; intro az Z
 refine L (r_as Z rfl) Z rfl ?_; clear Z az; intro az Z
 refine k1 _ _ (wp_seq_k fun _ k2 => wp_region_lit ?_)
 refine L (r_mv Z rfl) Z rfl ?_; clear Z az; intro az Z
 have hC11 := rJoin1_v t1 (by omega)
 refine LC Z rfl rfl Tryz.call11 (hC11) rfl ?_
 rintro e w12 ⟨A3, c4, P5, rfl, hP6, hS7, hN8, hM9, o10⟩; refine ⟨_, rfl, ?_⟩
 clear Z az; intro az Z
 have nt13 : NtV w12 (.slice A3 (P5.length) c4) P5 := ⟨SliceOf.pl hS7, hN8⟩
 have hPla : P5.length ≤ 400000 := ns_len_le hP6 (Nat.le_trans (joinN_le _) (by omega))
 refine L (r_as Z rfl) Z rfl ?_; clear Z az; intro az Z
 refine k2 _ _ (wp_seq_k fun _ k14 => wp_region_lit ?_)
 refine L (r_mv Z rfl) Z rfl ?_; clear Z az; intro az Z
 have hC23 := rJoin1_v (NtV.k t2 o10) (by omega)
 refine LC Z rfl rfl Tryz.call11 (hC23) rfl ?_
 rintro e w24 ⟨A15, c16, P17, rfl, hP18, hS19, hN20, hM21, o22⟩; refine ⟨_, rfl, ?_⟩
 clear Z az; intro az Z
 have nt25 : NtV w24 (.slice A15 (P17.length) c16) P17 := ⟨SliceOf.pl hS19, hN20⟩
 have hPlb : P17.length ≤ 400000 := ns_len_le hP18 (Nat.le_trans (joinN_le _) (by omega))
 refine L (r_as Z rfl) Z rfl ?_; clear Z az; intro az Z
 refine k14 _ _ (wp_seq_k fun _ k26 => wp_region_lit ?_)
 refine L (r_mv Z rfl) Z rfl ?_; clear Z az; intro az Z
 refine L (r_mv Z rfl) Z rfl ?_; clear Z az; intro az Z
 have hC33 := rLess39_v_ nt25 (NtV.k nt13 o22) hPlb
 refine LC Z rfl rfl Tryz.call32 (hC33) rfl ?_
 rintro e w34 ⟨A27, c28, P29, rfl, hP30, nt31, o32⟩; refine ⟨_, rfl, ?_⟩
 clear Z az; intro az Z
 refine L (r_mv Z rfl) Z rfl ?_; clear Z az; intro az Z
 refine L (r_mv Z rfl) Z rfl ?_; clear Z az; intro az Z
 have O41 : Only NoF w12 w34 := (Only.trans' o22 o32)
 have hC42 := rLess39_v_ (NtV.k nt13 O41) (NtV.k nt25 o32) hPla
 refine LC Z rfl rfl Tryz.call32 (hC42) rfl ?_
 rintro e w43 ⟨A35, c36, P37, rfl, hP38, nt39, o40⟩; refine ⟨_, rfl, ?_⟩
 clear Z az; intro az Z
 refine L (r_as Z rfl) Z rfl ?_; clear Z az; intro az Z
 refine L (r_as Z rfl) Z rfl ?_; clear Z az; intro az Z
 refine k26 _ _ ?_
 refine wp_ret ?_
 show bodyPost _ _ _ .ret _ _
 refine ret_of (vs := [.slice A27 (P29.length) c28, .slice A35 (P37.length) c36]) Z Tryz.results8 ⟨rfl, rfl, trivial⟩ ?_
 have O44 : Only NoF w w43 := (Only.trans' (Only.trans' (Only.trans' o10 o22) o32) o40)
 exact ⟨_, _, P29, _, _, P37, rfl, (hP30.trans (by rw [hP18, hP6])), (hP38.trans (by rw [hP6, hP18])), (NtV.k nt31 o40), nt39, O44⟩
end
end Go.Proofs.YtdcbjedkddgfkaaGreatDoor
