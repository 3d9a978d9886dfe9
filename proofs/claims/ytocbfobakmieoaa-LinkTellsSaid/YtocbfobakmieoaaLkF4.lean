/-
  The link's reference: Cut, Heal, walked. Condition: at most 1,000,000 of each.
-/
import Derived.Test.YtocbfobakmieoaaLkF3
namespace Go.Proofs.Ytocbfobakmieoaa
set_option linter.unusedVariables false
set_option linter.unusedSimpArgs false
set_option linter.unusedSectionVars false
open Go.RowKit

namespace Lnk
theorem okc_of {x y : Int} (hx : I64 x) (hy : I64 y) : I64 (min x y) ∧ I64 (max x y) := by
  rcases Int.le_total x y with h | h
  · rw [Int.min_eq_left h, Int.max_eq_right h]; exact ⟨hx, hy⟩
  · rw [Int.min_eq_right h, Int.max_eq_left h]; exact ⟨hy, hx⟩
theorem rcH {a : Air} {x y : Int} : ((((!right a) || (!(decide (0 ≤ x) && decide (x < 400)))) || (!(decide (0 ≤ y) && decide (y < 400)))) || decide (x = y)) = ((!right a) || (!houses x y)) := by
  cases right a
  · rfl
  · simp only [houses, Bool.not_true, Bool.false_or]
    by_cases h1 : 0 ≤ x <;> by_cases h2 : x < 400 <;> by_cases h3 : 0 ≤ y <;> by_cases h4 : y < 400 <;> by_cases h5 : x = y <;> simp [h1, h2, h3, h4, h5]
theorem rc0 {a : Air} {x y : Int} (h : ((((!right a) || (!(decide (0 ≤ x) && decide (x < 400)))) || (!(decide (0 ≤ y) && decide (y < 400)))) || decide (x = y)) = false) : right a = true := by
  rw [rcH] at h
  exact nt_f (or_f h).1
theorem rc1 {a : Air} {x y : Int} (h : ((((!right a) || (!(decide (0 ≤ x) && decide (x < 400)))) || (!(decide (0 ≤ y) && decide (y < 400)))) || decide (x = y)) = true) : cut a x y = (none_, 1) := by
  rw [rcH] at h
  unfold cut
  rw [if_pos]
  rcases or_t h with h | h
  · exact .inl (nt_t h)
  · exact .inr (nt_t h)
theorem rh1 {a : Air} {x y : Int} (h : ((((!right a) || (!(decide (0 ≤ x) && decide (x < 400)))) || (!(decide (0 ≤ y) && decide (y < 400)))) || decide (x = y)) = true) : heal a x y = (none_, 1) := by
  rw [rcH] at h
  unfold heal
  rw [if_pos]
  rcases or_t h with h | h
  · exact .inl (nt_t h)
  · exact .inr (nt_t h)
theorem rcn {a : Air} {x y : Int} (h : ((((!right a) || (!(decide (0 ≤ x) && decide (x < 400)))) || (!(decide (0 ≤ y) && decide (y < 400)))) || decide (x = y)) = false) : ¬ (right a = false ∨ houses x y = false) := by
  rw [rcH] at h
  have h1 := nt_f (or_f h).1
  have h2 := nt_f (or_f h).2
  rw [h1, h2]; decide
theorem rc2 {a : Air} {x y : Int} (h : ((((!right a) || (!(decide (0 ≤ x) && decide (x < 400)))) || (!(decide (0 ≤ y) && decide (y < 400)))) || decide (x = y)) = false) (h2 : isCut a x y = true) : cut a x y = (none_, 5) := by
  unfold cut; rw [if_neg (rcn h), if_pos h2]
theorem rh2 {a : Air} {x y : Int} (h : ((((!right a) || (!(decide (0 ≤ x) && decide (x < 400)))) || (!(decide (0 ≤ y) && decide (y < 400)))) || decide (x = y)) = false) (h2 : (!isCut a x y) = true) : heal a x y = (none_, 4) := by
  unfold heal; rw [if_neg (rcn h), if_pos (nt_t h2)]
theorem rh3 {a : Air} {x y : Int} (h : ((((!right a) || (!(decide (0 ≤ x) && decide (x < 400)))) || (!(decide (0 ≤ y) && decide (y < 400)))) || decide (x = y)) = false) (h2 : (!isCut a x y) = false) : heal a x y = (⟨a.ms, a.cs.filter (fun q => q != pair x y)⟩, 0) := by
  unfold heal; rw [if_neg (rcn h), if_neg (by rw [nt_f h2]; decide)]
theorem not_cut {a : Air} {x y : Int} (h : isCut a x y = false) : (⟨min x y, max x y⟩ : Pr) ∉ a.cs := of_decide_eq_false h
/-- what the rounds of the reference's Cut keep -/
def CutI (c : Pr) (l : List Pr) (k : Nat) (pb : Bool) (O : List Pr) : Prop :=
  (pb = false → O = l.take k ∧ ∀ q ∈ l.take k, lt q c = true) ∧ (pb = true → O = insC c (l.take k) ∧ ∃ q ∈ l.take k, lt q c = false)
theorem cutI_start (c : Pr) (l : List Pr) : CutI c l 0 false [] := ⟨fun _ => ⟨rfl, fun q hq => by cases hq⟩, fun h => by cases h⟩
theorem tw_mem {α : Type} {p : α → Bool} : ∀ {l : List α} {x : α}, x ∈ l.takeWhile p → p x = true
  | [], x, h => by cases h
  | y :: l, x, h => by
    rw [List.takeWhile_cons] at h
    split at h
    · rcases List.mem_cons.1 h with rfl | h
      · assumption
      · exact tw_mem h
    · cases h
theorem tw_all {α : Type} {p : α → Bool} : ∀ {l : List α}, (∀ x ∈ l, p x = true) → l.takeWhile p = l ∧ l.dropWhile p = []
  | [], _ => ⟨rfl, rfl⟩
  | y :: l, h => by
    have h1 := h y (List.mem_cons.2 (.inl rfl))
    have h2 := tw_all fun x hx => h x (List.mem_cons.2 (.inr hx))
    rw [List.takeWhile_cons, List.dropWhile_cons, if_pos h1, if_pos h1, h2.1]
    exact ⟨rfl, h2.2⟩
theorem ins_put (c d : Pr) : ∀ l : List Pr, (∃ q ∈ l, lt q c = false) → insC c (l ++ [d]) = insC c l ++ [d] := by
  intro l h
  rw [insC_eq, insC_eq]
  obtain ⟨q, hq, hc⟩ := h
  have h1 : (l ++ [d]).takeWhile (fun q => lt q c) = l.takeWhile fun q => lt q c := by
    rw [List.takeWhile_append]
    rw [if_neg]
    intro he
    have : l.takeWhile (fun q => lt q c) = l := List.IsPrefix.eq_of_length (List.takeWhile_prefix _) he
    have h2 := tw_mem (this.symm ▸ hq)
    rw [hc] at h2; cases h2
  have h2 : (l ++ [d]).dropWhile (fun q => lt q c) = l.dropWhile (fun q => lt q c) ++ [d] := by
    rw [List.dropWhile_append]
    rw [if_neg]
    intro he
    simp only [List.isEmpty_iff] at he
    have h3 := List.takeWhile_append_dropWhile (p := fun q => lt q c) (l := l)
    rw [he, List.append_nil] at h3
    have h2 := tw_mem (h3.symm ▸ hq)
    rw [hc] at h2; cases h2
  rw [h1, h2]
  simp
theorem ins_all (c : Pr) (l : List Pr) (h : ∀ q ∈ l, lt q c = true) : insC c l = l ++ [c] := by
  rw [insC_eq, (tw_all h).1, (tw_all h).2]
theorem ins_here (c d : Pr) (l : List Pr) (h : ∀ q ∈ l, lt q c = true) (hd : lt d c = false) : insC c (l ++ [d]) = l ++ [c] ++ [d] := by
  rw [insC_eq]
  have h1 : (l ++ [d]).takeWhile (fun q => lt q c) = l := by
    rw [List.takeWhile_append, (tw_all h).1, if_pos rfl]
    simp [hd]
  have h2 : (l ++ [d]).dropWhile (fun q => lt q c) = [d] := by
    rw [List.dropWhile_append, (tw_all h).2]
    simp [hd]
  rw [h1, h2]
  simp
theorem lt_eq (c d : Pr) : (decide (c.x < d.x) || (decide (c.x = d.x) && decide (c.y < d.y))) = lt c d := by
  unfold lt
  rw [Bool.eq_iff_iff]
  simp only [Bool.or_eq_true, Bool.and_eq_true, decide_eq_true_eq]
theorem cutI_t {c d : Pr} {l : List Pr} {k : Nat} {pb : Bool} {O : List Pr} (h : CutI c l k pb O) (hm : l[k]? = some d) (hnc : c ∉ l) (hs : sorted l = true) (hb : (!pb && (decide (c.x < d.x) || (decide (c.x = d.x) && decide (c.y < d.y)))) = true) : CutI c l (k + 1) true ((O ++ [c]) ++ [d]) := by
  obtain ⟨hk, rfl⟩ := List.getElem?_eq_some_iff.1 hm
  obtain ⟨h1, h2⟩ := and_t hb
  rw [lt_eq] at h2
  obtain ⟨rfl, h3⟩ := h.1 (nt_t h1)
  have hd := lt_asymm h2
  refine ⟨(fun h => by cases h), fun _ => ?_⟩
  rw [List.take_succ_eq_append_getElem hk]
  exact ⟨(ins_here _ _ _ h3 hd).symm, _, List.mem_append.2 (.inr (List.mem_singleton.2 rfl)), hd⟩
theorem cutI_f {c d : Pr} {l : List Pr} {k : Nat} {pb : Bool} {O : List Pr} (h : CutI c l k pb O) (hm : l[k]? = some d) (hnc : c ∉ l) (hs : sorted l = true) (hb : (!pb && (decide (c.x < d.x) || (decide (c.x = d.x) && decide (c.y < d.y)))) = false) : CutI c l (k + 1) pb (O ++ [d]) := by
  obtain ⟨hk, rfl⟩ := List.getElem?_eq_some_iff.1 hm
  rw [lt_eq] at hb
  unfold CutI
  rw [List.take_succ_eq_append_getElem hk]
  refine ⟨fun hp => ?_, fun hp => ?_⟩
  · subst hp
    obtain ⟨rfl, h3⟩ := h.1 rfl
    refine ⟨rfl, fun q hq => ?_⟩
    rcases List.mem_append.1 hq with hq | hq
    · exact h3 q hq
    · obtain rfl := List.mem_singleton.1 hq
      cases hl : lt l[k] c with
      | true => rfl
      | false => exact absurd (lt_total (by simpa using hb) hl ▸ List.getElem_mem hk) hnc
  · subst hp
    obtain ⟨rfl, q, hq, hc⟩ := h.2 rfl
    exact ⟨(ins_put _ _ _ ⟨q, hq, hc⟩).symm, q, List.mem_append.2 (.inl hq), hc⟩
theorem cutI_len {c : Pr} {l : List Pr} {k : Nat} {pb : Bool} {O : List Pr} (h : CutI c l k pb O) (hk : k ≤ l.length) : O.length ≤ k + 1 := by
  cases pb with
  | false => obtain ⟨rfl, _⟩ := h.1 rfl; rw [List.length_take]; omega
  | true => obtain ⟨rfl, _⟩ := h.2 rfl; rw [insC_len, List.length_take]; omega
theorem cutI_ok {c : Pr} {l : List Pr} {k : Nat} {pb : Bool} {O : List Pr} (h : CutI c l k pb O) (hl : ∀ x ∈ l, KPr.ok x) (hc : I64 c.x ∧ I64 c.y) : ∀ x ∈ O, KPr.ok x := by
  cases pb with
  | false => obtain ⟨rfl, _⟩ := h.1 rfl; exact fun x hx => hl x (List.mem_of_mem_take hx)
  | true =>
    obtain ⟨rfl, _⟩ := h.2 rfl
    intro x hx
    rcases mem_ins.1 hx with rfl | hx
    · exact hc
    · exact hl x (List.mem_of_mem_take hx)
theorem rc3p {a : Air} {x y : Int} {k : Nat} {pb : Bool} {O : List Pr} (h : ((((!right a) || (!(decide (0 ≤ x) && decide (x < 400)))) || (!(decide (0 ≤ y) && decide (y < 400)))) || decide (x = y)) = false) (h2 : isCut a x y = false) (hI : CutI ⟨min x y, max x y⟩ a.cs k pb O) (hk : a.cs.length ≤ k) (hp : (!pb) = false) : cut a x y = (⟨a.ms, O⟩, 0) := by
  obtain ⟨rfl, _⟩ := hI.2 (nt_f hp)
  rw [List.take_of_length_le hk]
  unfold cut; rw [if_neg (rcn h), if_neg (by rw [h2]; decide)]
  rfl
theorem rc3n {a : Air} {x y : Int} {k : Nat} {pb : Bool} {O : List Pr} (h : ((((!right a) || (!(decide (0 ≤ x) && decide (x < 400)))) || (!(decide (0 ≤ y) && decide (y < 400)))) || decide (x = y)) = false) (h2 : isCut a x y = false) (hI : CutI ⟨min x y, max x y⟩ a.cs k pb O) (hk : a.cs.length ≤ k) (hp : (!pb) = true) : cut a x y = (⟨a.ms, O ++ [⟨min x y, max x y⟩]⟩, 0) := by
  obtain ⟨rfl, h3⟩ := hI.1 (nt_t hp)
  rw [List.take_of_length_le hk] at h3 ⊢
  unfold cut; rw [if_neg (rcn h), if_neg (by rw [h2]; decide)]
  show (Air.mk a.ms (insC ⟨min x y, max x y⟩ a.cs), (0 : Int)) = _
  rw [ins_all _ _ h3]
theorem heal_t {l : List Pr} {k : Nat} {p : Pr} {x y : Int} (hm : l[k]? = some p) (h : ((!decide (p.x = min x y)) || (!decide (p.y = max x y))) = true) : (l.take k).filter (fun q => q != pair x y) ++ [p] = (l.take (k + 1)).filter (fun q => q != pair x y) := by
  obtain ⟨hk, rfl⟩ := List.getElem?_eq_some_iff.1 hm
  rw [List.take_succ_eq_append_getElem hk, List.filter_append]
  have : (l[k] != pair x y) = true := by
    rw [bne_iff_ne]
    intro e
    rw [e] at h
    simp [pair] at h
  simp [this]
theorem heal_f {l : List Pr} {k : Nat} {p : Pr} {x y : Int} (hm : l[k]? = some p) (h : ((!decide (p.x = min x y)) || (!decide (p.y = max x y))) = false) : (l.take k).filter (fun q => q != pair x y) = (l.take (k + 1)).filter (fun q => q != pair x y) := by
  obtain ⟨hk, rfl⟩ := List.getElem?_eq_some_iff.1 hm
  rw [List.take_succ_eq_append_getElem hk, List.filter_append]
  have h1 := of_decide_eq_true (nt_f (or_f h).1)
  have h2 := of_decide_eq_true (nt_f (or_f h).2)
  have : (l[k] != pair x y) = false := by
    rw [bne_eq_false_iff_eq]
    unfold pair
    rw [← h1, ← h2]
  simp [this]
end Lnk
set_option maxHeartbeats 4000000 in
theorem rCut_v_ {w : World} {a : Air} {A1 A2 : Option Addr} {c1 c2 : Nat} (f1 : Msgs w (.slice A1 a.ms.length c1) a.ms) (f2 : Prs w (.slice A2 a.cs.length c2) a.cs) (hf : a.ms.length ≤ 1000000 ∧ a.cs.length ≤ 1000000) (x y : Int) (hx : I64 x) (hy : I64 y) : Calls Try.prog 19 #[.agg #[.slice A1 a.ms.length c1, .slice A2 a.cs.length c2], .int .i64 x, .int .i64 y] w (AirO w (Lnk.cut a x y)) := by
  have hb1 := Nat.le_trans (SliceOf.cap_ f1) (SliceOf.lens f1).2
  have hb2 := Nat.le_trans (SliceOf.cap_ f2) (SliceOf.lens f2).2
  refine calls_start Try.func19 rfl rfl ?_
  intro az Hz
  rw [Try.ntmps19] at Hz
  refine wp_seq_k fun K1 hK1 => ?_
  -- ref.go:115
  refine wp_region_lit ?_
  refine LBox Hz rfl rfl rfl ?_
  clear Hz az; intro g2 w3 hg6 hl7 o4 B5 az Hz
  refine LAl (v := .agg #[.slice none (0) 0, .slice none (0) 0]) zeroAir Hz rfl rfl ?_
  clear Hz az; intro g8 w9 hg12 hl13 o10 B11 az Hz
  refine L (r_as Hz rfl) Hz rfl ?_
  clear Hz az; intro az Hz
  refine hK1 _ _ ?_
  refine wp_seq_k fun K14 hK14 => ?_
  refine wp_seq_k fun K15 hK15 => ?_
  -- ref.go:116
  refine wp_region_lit ?_
  have B16 := (Blk.k B5 o10)
  refine L (r_ldA Try.isAgg25 Try.sizeOf25 Hz rfl (Blk.ca B16) rfl) Hz rfl ?_
  clear Hz az; intro az Hz
  have O17 : Only NoF w w9 := (Only.trans' o4 o10)
  have h18 := (SliceOf.kp f1 O17 (fun _ _ h => h) (fun _ _ _ _ h => h))
  have h19 := (SliceOf.kp f2 O17 (fun _ _ h => h) (fun _ _ _ _ h => h))
  refine LCV (v := .bool (Lnk.right a)) Hz rfl rfl Try.call29 (rRight_v (show AirV _ _ a from ⟨_, _, rfl, h18, h19⟩)) rfl fun w20 o21 => ?_
  clear Hz az; intro az Hz
  refine L (r_not Hz rfl) Hz rfl ?_
  clear Hz az; intro az Hz
  refine L (r_mv Hz rfl) Hz rfl ?_
  clear Hz az; intro az Hz
  refine LG Hz rfl rfl gd_f (fun hb => r_mv Hz rfl) rfl ?_
  clear Hz az; intro az Hz
  refine LGV (v := .bool (((decide (0 ≤ x)) && (decide (x < 400))))) Hz rfl rfl gd_f rfl (fun hb => (evs_c (evg hb rfl) rfl)) Try.call47 (fun hb => rhouse_v _ x) rfl fun w22 o23 => ?_
  clear Hz az; intro az Hz
  refine LG Hz rfl rfl gd_f (fun hb => r_not Hz (evg hb rfl)) rfl ?_
  clear Hz az; intro az Hz
  refine L (r_or Hz rfl rfl rfl) Hz rfl ?_
  clear Hz az; intro az Hz
  refine L (r_mv Hz rfl) Hz rfl ?_
  clear Hz az; intro az Hz
  refine LG Hz rfl rfl gd_f (fun hb => r_mv Hz rfl) rfl ?_
  clear Hz az; intro az Hz
  refine LGV (v := .bool (((decide (0 ≤ y)) && (decide (y < 400))))) Hz rfl rfl gd_f rfl (fun hb => (evs_c (evg hb rfl) rfl)) Try.call47 (fun hb => rhouse_v _ y) rfl fun w24 o25 => ?_
  clear Hz az; intro az Hz
  refine LG Hz rfl rfl gd_f (fun hb => r_not Hz (evg hb rfl)) rfl ?_
  clear Hz az; intro az Hz
  refine L (r_or Hz rfl rfl rfl) Hz rfl ?_
  clear Hz az; intro az Hz
  refine L (r_mv Hz rfl) Hz rfl ?_
  clear Hz az; intro az Hz
  refine LG Hz rfl rfl gd_f (fun hb => r_mv Hz rfl) rfl ?_
  clear Hz az; intro az Hz
  refine LG Hz rfl rfl gd_f (fun hb => r_mv Hz rfl) rfl ?_
  clear Hz az; intro az Hz
  refine LG Hz rfl rfl gd_f (fun hb => r_eqI Hz (evg hb rfl) (evg hb rfl)) rfl ?_
  clear Hz az; intro az Hz
  refine L (r_or Hz rfl rfl rfl) Hz rfl ?_
  clear Hz az; intro az Hz
  refine hK15 _ _ ?_
  refine br Hz rfl (fun hc26 => ?_) (fun hc26 => ?_)
  · -- if0
    have d27 := hc26
    refine wp_seq_k fun K28 hK28 => ?_
    -- ref.go:117
    refine wp_region_lit ?_
    refine L (r_bd (v := .agg #[.slice none (0) 0, .slice none (0) 0]) build_Air0 Hz rfl) Hz rfl ?_
    clear Hz az; intro az Hz
    have B29 := (Blk.k (Blk.k (Blk.k B11 o21) o23) o25)
    refine LSt (cs' := [.slice none (0) 0, .slice none (0) 0]) Try.sizeOf25 Hz rfl rfl rfl rfl rfl ⟨rfl, rfl, trivial⟩ B29 rfl rfl fun w30 s31 B32 => ?_
    refine L (r_as Hz rfl) Hz rfl ?_
    clear Hz az; intro az Hz
    refine hK28 _ _ ?_
    refine wp_ret ?_
    show bodyPost _ _ _ .ret _ _
    refine ret_of (vs := [.agg #[.slice none (0) 0, .slice none (0) 0], .int .i64 (1)]) Hz Try.results19 ⟨⟨_, rfl, l_ca Try.isAgg25 Try.sizeOf25 (Blk.ca B32) rfl⟩, rfl, trivial⟩ ?_
    rw [Lnk.rc1 hc26]
    have O33 : Only NoF w w30 := (o_sg (Only.trans' (Only.trans' (Only.trans' O17 o21) o23) o25) s31 (size_only o4) (oneF_ge hg12))
    exact ⟨_, _, _, _, rfl, (World.ownsRow_nil _ _ _ _), (World.ownsRow_nil _ _ _ _), (fun x hx => by cases hx), (fun x hx => by cases hx), O33⟩
  · -- else0
    have q34 : Lnk.right a = true := (nt_f (or_f (or_f (or_f hc26).1).1).1)
    have p35 := of_decide_eq_true (and_t (nt_f (or_f (or_f (or_f hc26).1).1).2)).1
    have p36 := of_decide_eq_true (and_t (nt_f (or_f (or_f (or_f hc26).1).1).2)).2
    have p37 := of_decide_eq_true (and_t (nt_f (or_f (or_f hc26).1).2)).1
    have p38 := of_decide_eq_true (and_t (nt_f (or_f (or_f hc26).1).2)).2
    have p39 := of_decide_eq_false (or_f hc26).2
    refine wp_skip ?_
    refine hK14 _ _ ?_
    refine wp_seq_k fun K40 hK40 => ?_
    refine wp_seq_k fun K41 hK41 => ?_
    -- ref.go:119
    refine wp_region_lit ?_
    have B42 := (Blk.k (Blk.k (Blk.k B16 o21) o23) o25)
    refine L (r_ldA Try.isAgg25 Try.sizeOf25 Hz rfl (Blk.ca B42) rfl) Hz rfl ?_
    clear Hz az; intro az Hz
    refine L (r_mv Hz rfl) Hz rfl ?_
    clear Hz az; intro az Hz
    refine L (r_mv Hz rfl) Hz rfl ?_
    clear Hz az; intro az Hz
    have O43 : Only NoF w w24 := (Only.trans' (Only.trans' (Only.trans' O17 o21) o23) o25)
    have h44 := (SliceOf.kp f1 O43 (fun _ _ h => h) (fun _ _ _ _ h => h))
    have h45 := (SliceOf.kp f2 O43 (fun _ _ h => h) (fun _ _ _ _ h => h))
    refine LCV (v := .bool (Lnk.isCut a (x) (y))) Hz rfl rfl Try.call48 (risCut_v (show AirV _ _ a from ⟨_, _, rfl, h44, h45⟩) x y) rfl fun w46 o47 => ?_
    clear Hz az; intro az Hz
    refine hK41 _ _ ?_
    refine br Hz rfl (fun hc48 => ?_) (fun hc48 => ?_)
    · -- if1
      have q49 : Lnk.isCut a (x) (y) = true := hc48
      refine wp_seq_k fun K50 hK50 => ?_
      -- ref.go:120
      refine wp_region_lit ?_
      refine L (r_bd (v := .agg #[.slice none (0) 0, .slice none (0) 0]) build_Air0 Hz rfl) Hz rfl ?_
      clear Hz az; intro az Hz
      have B51 := (Blk.k (Blk.k (Blk.k (Blk.k B11 o21) o23) o25) o47)
      refine LSt (cs' := [.slice none (0) 0, .slice none (0) 0]) Try.sizeOf25 Hz rfl rfl rfl rfl rfl ⟨rfl, rfl, trivial⟩ B51 rfl rfl fun w52 s53 B54 => ?_
      refine L (r_as Hz rfl) Hz rfl ?_
      clear Hz az; intro az Hz
      refine hK50 _ _ ?_
      refine wp_ret ?_
      show bodyPost _ _ _ .ret _ _
      refine ret_of (vs := [.agg #[.slice none (0) 0, .slice none (0) 0], .int .i64 (5)]) Hz Try.results19 ⟨⟨_, rfl, l_ca Try.isAgg25 Try.sizeOf25 (Blk.ca B54) rfl⟩, rfl, trivial⟩ ?_
      rw [Lnk.rc2 hc26 hc48]
      have O55 : Only NoF w w52 := (o_sg (Only.trans' O43 o47) s53 (size_only o4) (oneF_ge hg12))
      exact ⟨_, _, _, _, rfl, (World.ownsRow_nil _ _ _ _), (World.ownsRow_nil _ _ _ _), (fun x hx => by cases hx), (fun x hx => by cases hx), O55⟩
    · -- else1
      have q56 : Lnk.isCut a (x) (y) = false := hc48
      refine wp_skip ?_
      refine hK40 _ _ ?_
      refine wp_seq_k fun K57 hK57 => ?_
      -- ref.go:122
      refine wp_region_lit ?_
      have B58 := (Blk.k B42 o47)
      refine L (r_ldA Try.isAgg25 Try.sizeOf25 Hz rfl (Blk.ca B58) rfl) Hz rfl ?_
      clear Hz az; intro az Hz
      have O59 : Only NoF w w46 := (Only.trans' O43 o47)
      have h60 := (SliceOf.kp f1 O59 (fun _ _ h => h) (fun _ _ _ _ h => h))
      have h61 := (SliceOf.kp f2 O59 (fun _ _ h => h) (fun _ _ _ _ h => h))
      refine LC Hz rfl rfl Try.call38 (rcopied_all (show AirV _ _ a from ⟨_, _, rfl, h60, h61⟩) hf) rfl ?_
      rintro e w71 ⟨A62, c64, A63, c65, rfl, r66, r67, k68, k69, o70⟩; refine ⟨_, rfl, ?_⟩
      clear Hz az; intro az Hz
      refine LAl (v := .agg #[.slice none (0) 0, .slice none (0) 0]) zeroAir Hz rfl rfl ?_
      clear Hz az; intro g72 w73 hg76 hl77 o74 B75 az Hz
      refine LSt (cs' := [.slice A62 (a.ms.length) c64, .slice A63 (a.cs.length) c65]) Try.sizeOf25 Hz rfl rfl rfl rfl rfl ⟨rfl, rfl, trivial⟩ B75 rfl rfl fun w78 s79 B80 => ?_
      refine hK57 _ _ ?_
      refine wp_seq_k fun K81 hK81 => ?_
      -- ref.go:123
      refine wp_region_lit ?_
      refine L (r_fa (m' := 1) Try.underlying25 rfl Try.sizeOf23 rfl Hz rfl rfl) Hz rfl ?_
      clear Hz az; intro az Hz
      refine LSt (cs' := [.slice A62 (a.ms.length) c64, .slice none (0) 0]) Try.sizeOf23 Hz rfl rfl rfl rfl rfl ⟨rfl, trivial⟩ B80 rfl rfl fun w82 s83 B84 => ?_
      refine hK81 _ _ ?_
      refine wp_seq_k fun K85 hK85 => ?_
      -- ref.go:124
      refine wp_region_lit ?_
      refine L (r_mv Hz rfl) Hz rfl ?_
      clear Hz az; intro az Hz
      refine L (r_mv Hz rfl) Hz rfl ?_
      clear Hz az; intro az Hz
      refine L (r_min Hz rfl rfl) Hz rfl ?_
      clear Hz az; intro az Hz
      refine L (r_mv Hz rfl) Hz rfl ?_
      clear Hz az; intro az Hz
      refine L (r_mv Hz rfl) Hz rfl ?_
      clear Hz az; intro az Hz
      refine L (r_max Hz rfl rfl) Hz rfl ?_
      clear Hz az; intro az Hz
      refine L (r_bd (v := .agg #[.int .i64 ((min (x) (y))), .int .i64 ((max (x) (y)))]) (build_Pr _ _) Hz rfl) Hz rfl ?_
      clear Hz az; intro az Hz
      refine LAl (v := .agg #[.int .i64 (0), .int .i64 (0)]) zeroPr Hz rfl rfl ?_
      clear Hz az; intro g86 w87 hg90 hl91 o88 B89 az Hz
      refine LSt (cs' := [.int .i64 ((min (x) (y))), .int .i64 ((max (x) (y)))]) Try.sizeOf60 Hz rfl rfl rfl rfl rfl ⟨rfl, rfl, trivial⟩ B89 rfl rfl fun w92 s93 B94 => ?_
      refine hK85 _ _ ?_
      refine wp_seq_k fun K95 hK95 => ?_
      -- ref.go:125
      refine wp_region_lit ?_
      refine L (r_as Hz rfl) Hz rfl ?_
      clear Hz az; intro az Hz
      refine hK95 _ _ ?_
      refine wp_seq_k fun K96 hK96 => ?_
      refine wp_seq_k fun K97 hK97 => ?_
      -- ref.go:126
      refine wp_region_lit ?_
      refine L (r_as Hz rfl) Hz rfl ?_
      clear Hz az; intro az Hz
      refine hK97 _ _ ?_
      refine wp_block ?_
      have okc : I64 (min (x) (y)) ∧ I64 (max (x) (y)) := Lnk.okc_of hx hy
      have hnc : (⟨min (x) (y), max (x) (y)⟩ : Pr) ∉ a.cs := Lnk.not_cut hc48
      have hrt := (Lnk.right_iff.1 (Lnk.rc0 hc26)).2.1
      have O99 := (Only.trans (Only.trans (Only.refl (fun _ => True) w73) s79 (fun _ _ => .inl trivial)) s83 (fun _ _ => .inl trivial))
      have ne98 : g72 ≠ g86 := (ne_of hl77 (Nat.le_trans (size_only O99) hg90))
      have B100 := (Blk.st (Blk.k B84 o88) s93 ne98)
      refine wp_loop_m (fun mz az W => ∃ k : Nat, ∃ pb : Bool, ∃ O : List Pr, ∃ Ao : Option Addr, ∃ co : Nat, mz = a.cs.length - k ∧ Fr 103 [(3, .pointer (some ((⟨g2, 0, none⟩ : Addr)))), (6, .pointer (some ((⟨g8, 0, none⟩ : Addr)))), (7, .int .i64 (0)), (8, .pointer (some ((⟨g72, 0, none⟩ : Addr)))), (9, .pointer (some ((⟨g86, 0, none⟩ : Addr)))), (11, .int .i64 ((k : Int))), (10, .bool (pb))] az ∧ (k ≤ a.cs.length) ∧ (Lnk.CutI (⟨(min (x) (y)), (max (x) (y))⟩ : Pr) a.cs k pb O) ∧ Only (oneF g72) w92 W ∧ Blk W g72 25 [.slice A62 (a.ms.length) c64, .slice Ao (O.length) co].toArray ∧ W.ownsRow w92.heap.size 60 2 (.slice Ao (O).length co) (O).length (List.flatMap KPr.cells O)) ?_ ?_
      · -- start
        exact ⟨_, 0, false, [], none, 0, rfl, Hz.cut ⟨rfl, rfl, rfl, rfl, rfl, rfl, rfl, trivial⟩, Nat.zero_le _, Lnk.cutI_start _ _, (Only.refl (oneF g72) w92), B100, (World.ownsRow_nil _ _ _ _)⟩
      clear Hz az
      rintro mz az w101 ⟨k, pb, O, Ao, co, hm103, Hz, hk, hI, o102, B104, rO⟩
      have hol := Lnk.cutI_len hI hk
      have okO : ∀ zq ∈ O, KPr.ok zq := Lnk.cutI_ok hI (Row.oks KPr f2) okc
      refine wp_seq_k fun K105 hK105 => ?_
      refine wp_seq_k fun K106 hK106 => ?_
      -- ref.go:126
      refine wp_region_lit ?_
      refine L (r_mv Hz rfl) Hz rfl ?_
      clear Hz az; intro az Hz
      refine L (r_fa (m' := 1) Try.underlying25 rfl Try.sizeOf23 rfl Hz rfl rfl) Hz rfl ?_
      clear Hz az; intro az Hz
      have O108 : Only NoF w3 w71 := (Only.trans' (Only.trans' (Only.trans' (Only.trans' (Only.trans' o10 o21) o23) o25) o47) o70)
      have ne107 : g2 ≠ g72 := (ne_of hl7 (Nat.le_trans (size_only O108) hg76))
      have O110 : Only NoF w3 w82 := (o_sg (o_sg (Only.trans' O108 o74) s79 (size_only O108) (oneF_ge hg76)) s83 (size_only O108) (oneF_ge hg76))
      have ne109 : g2 ≠ g86 := (ne_of hl7 (Nat.le_trans (size_only O110) hg90))
      have B111 := (Blk.st (Blk.st (Blk.k (Blk.st (Blk.st (Blk.k (Blk.k B58 o70) o74) s79 ne107) s83 ne107) o88) s93 ne109) o102 ne107)
      refine L (r_ld Try.isAgg23 Hz rfl ((Blk.ca B111) 1 _ rfl)) Hz rfl ?_
      clear Hz az; intro az Hz
      refine L (r_lenL Try.underlying23 Hz rfl) Hz rfl ?_
      clear Hz az; intro az Hz
      refine L (r_ltI Hz rfl rfl) Hz rfl ?_
      clear Hz az; intro az Hz
      refine hK106 _ _ ?_
      refine br Hz rfl (fun hc112 => ?_) (fun hc112 => ?_)
      · -- if2
        have p113 := of_decide_eq_true hc112
        refine wp_skip ?_
        refine hK105 _ _ ?_
        refine wp_seq_k fun K114 hK114 => ?_
        refine wp_block ?_
        refine wp_seq_k fun K115 hK115 => ?_
        -- ref.go:127
        refine wp_region_lit ?_
        refine L (r_fa (m' := 1) Try.underlying25 rfl Try.sizeOf23 rfl Hz rfl rfl) Hz rfl ?_
        clear Hz az; intro az Hz
        refine L (r_ld Try.isAgg23 Hz rfl ((Blk.ca B111) 1 _ rfl)) Hz rfl ?_
        clear Hz az; intro az Hz
        refine L (r_mv Hz rfl) Hz rfl ?_
        clear Hz az; intro az Hz
        have hk116 : k < (a.cs).length := by omega
        have O122 : Only NoF w w71 := (Only.trans' O59 o70)
        have O123 : Only NoF w w82 := (o_sg (o_sg (Only.trans' O122 o74) s79 (size_only O122) (oneF_ge hg76)) s83 (size_only O122) (oneF_ge hg76))
        have O124 : Only NoF w w101 := (o_sg (o_sg (Only.trans' (o_sg (o_sg (Only.trans' (Only.trans' O59 o70) o74) s79 (size_only O122) (oneF_ge hg76)) s83 (size_only O122) (oneF_ge hg76)) o88) s93 (size_only O123) (oneF_ge hg90)) o102 (size_only O122) (oneF_ge hg76))
        have h125 := (SliceOf.kp f2 O124 (fun _ _ h => h) (fun _ _ _ _ h => h))
        obtain ⟨m117, hm118, ok119, hA120⟩ := Row.el KPr h125 hk116
        have E121 : ∀ W, Only NoF w101 W → CA W (eA A2 2 (k)) [.int .i64 (m117.x), .int .i64 (m117.y)] := Row.ce KPr h125 hm118 rfl
        refine L (r_ia (k := k) (size := 2) Try.underlying23 Try.sizeOf60 Hz rfl rfl rfl hk116 hA120) Hz rfl ?_
        clear Hz az; intro az Hz
        refine L (r_ldA Try.isAgg60 Try.sizeOf60 Hz rfl (E121 _ (Only.refl NoF w101)) rfl) Hz rfl ?_
        clear Hz az; intro az Hz
        refine LAl (v := .agg #[.int .i64 (0), .int .i64 (0)]) zeroPr Hz rfl rfl ?_
        clear Hz az; intro g126 w127 hg130 hl131 o128 B129 az Hz
        refine LSt (cs' := [.int .i64 (m117.x), .int .i64 (m117.y)]) Try.sizeOf60 Hz rfl rfl rfl rfl rfl ⟨rfl, rfl, trivial⟩ B129 rfl rfl fun w132 s133 B134 => ?_
        refine hK115 _ _ ?_
        refine wp_seq_k fun K135 hK135 => ?_
        refine wp_seq_k fun K136 hK136 => ?_
        -- ref.go:128
        refine wp_region_lit ?_
        refine L (r_mv Hz rfl) Hz rfl ?_
        clear Hz az; intro az Hz
        refine L (r_not Hz rfl) Hz rfl ?_
        clear Hz az; intro az Hz
        refine L (r_mv Hz rfl) Hz rfl ?_
        clear Hz az; intro az Hz
        refine LG Hz rfl rfl gd_t (fun hb => r_fa (m' := 0) Try.underlying60 rfl Try.sizeOf3 rfl Hz rfl rfl) rfl ?_
        clear Hz az; intro az Hz
        have ne137 : g86 ≠ g72 := (ne_of hl77 (Nat.le_trans (size_only O99) hg90)).symm
        have O139 := (Only.trans (Only.trans (Only.refl (fun _ => True) w87) s93 (fun _ _ => .inl trivial)) o102 (fun _ _ => .inl trivial))
        have ne138 : g86 ≠ g126 := (ne_of hl91 (Nat.le_trans (size_only O139) hg130))
        have B140 := (Blk.st (Blk.k (Blk.st B94 o102 ne137) o128) s133 ne138)
        refine LG Hz rfl rfl gd_t (fun hb => r_ld Try.isAgg3 Hz (evg hb rfl) ((Blk.ca B140) 0 _ rfl)) rfl ?_
        clear Hz az; intro az Hz
        refine LG Hz rfl rfl gd_t (fun hb => r_fa (m' := 0) Try.underlying60 rfl Try.sizeOf3 rfl Hz rfl rfl) rfl ?_
        clear Hz az; intro az Hz
        refine LG Hz rfl rfl gd_t (fun hb => r_ld Try.isAgg3 Hz (evg hb rfl) ((Blk.ca B134) 0 _ rfl)) rfl ?_
        clear Hz az; intro az Hz
        refine LG Hz rfl rfl gd_t (fun hb => r_ltI Hz (evg hb rfl) (evg hb rfl)) rfl ?_
        clear Hz az; intro az Hz
        refine LG Hz rfl rfl gd_t (fun hb => r_mv Hz (evg hb rfl)) rfl ?_
        clear Hz az; intro az Hz
        refine LG Hz rfl rfl gd_gf (fun hb => r_fa (m' := 0) Try.underlying60 rfl Try.sizeOf3 rfl Hz rfl rfl) rfl ?_
        clear Hz az; intro az Hz
        refine LG Hz rfl rfl gd_gf (fun hb => r_ld Try.isAgg3 Hz (evg hb rfl) ((Blk.ca B140) 0 _ rfl)) rfl ?_
        clear Hz az; intro az Hz
        refine LG Hz rfl rfl gd_gf (fun hb => r_fa (m' := 0) Try.underlying60 rfl Try.sizeOf3 rfl Hz rfl rfl) rfl ?_
        clear Hz az; intro az Hz
        refine LG Hz rfl rfl gd_gf (fun hb => r_ld Try.isAgg3 Hz (evg hb rfl) ((Blk.ca B134) 0 _ rfl)) rfl ?_
        clear Hz az; intro az Hz
        refine LG Hz rfl rfl gd_gf (fun hb => r_eqI Hz (evg hb rfl) (evg hb rfl)) rfl ?_
        clear Hz az; intro az Hz
        refine LG Hz rfl rfl gd_gf (fun hb => r_mv Hz (evg hb rfl)) rfl ?_
        clear Hz az; intro az Hz
        refine LG Hz rfl rfl gd_gt (fun hb => r_fa (m' := 1) Try.underlying60 rfl Try.sizeOf3 rfl Hz rfl rfl) rfl ?_
        clear Hz az; intro az Hz
        refine LG Hz rfl rfl gd_gt (fun hb => r_ld Try.isAgg3 Hz (evg hb rfl) ((Blk.ca B140) 1 _ rfl)) rfl ?_
        clear Hz az; intro az Hz
        refine LG Hz rfl rfl gd_gt (fun hb => r_fa (m' := 1) Try.underlying60 rfl Try.sizeOf3 rfl Hz rfl rfl) rfl ?_
        clear Hz az; intro az Hz
        refine LG Hz rfl rfl gd_gt (fun hb => r_ld Try.isAgg3 Hz (evg hb rfl) ((Blk.ca B134) 1 _ rfl)) rfl ?_
        clear Hz az; intro az Hz
        refine LG Hz rfl rfl gd_gt (fun hb => r_ltI Hz (evg hb rfl) (evg hb rfl)) rfl ?_
        clear Hz az; intro az Hz
        refine LG Hz rfl rfl gd_gf (fun hb => r_and Hz (evg hb rfl) (evgc hb rfl) rfl) rfl ?_
        clear Hz az; intro az Hz
        refine LG Hz rfl rfl gd_t (fun hb => r_or Hz (evg hb rfl) rfl (evgc hb rfl)) rfl ?_
        clear Hz az; intro az Hz
        refine L (r_and Hz rfl rfl rfl) Hz rfl ?_
        clear Hz az; intro az Hz
        refine hK136 _ _ ?_
        refine br Hz rfl (fun hc141 => ?_) (fun hc141 => ?_)
        · -- if3
          have q142 : pb = false := (nt_t (and_t hc141).1)
          have d143 := (and_t hc141).2
          refine wp_seq_k fun K144 hK144 => ?_
          -- ref.go:129
          refine wp_region_lit ?_
          refine L (r_fa (m' := 1) Try.underlying25 rfl Try.sizeOf23 rfl Hz rfl rfl) Hz rfl ?_
          clear Hz az; intro az Hz
          have O146 := (Only.trans (Only.trans (Only.trans (Only.trans (Only.trans (Only.refl (fun _ => True) w73) s79 (fun _ _ => .inl trivial)) s83 (fun _ _ => .inl trivial)) o88 (fun _ _ => .inl trivial)) s93 (fun _ _ => .inl trivial)) o102 (fun _ _ => .inl trivial))
          have ne145 : g72 ≠ g126 := (ne_of hl77 (Nat.le_trans (size_only O146) hg130))
          have B147 := (Blk.st (Blk.k B104 o128) s133 ne145)
          refine L (r_ld Try.isAgg23 Hz rfl ((Blk.ca B147) 1 _ rfl)) Hz rfl ?_
          clear Hz az; intro az Hz
          refine L (r_ldA Try.isAgg60 Try.sizeOf60 Hz rfl (Blk.ca B140) rfl) Hz rfl ?_
          clear Hz az; intro az Hz
          obtain ⟨A148, w149, hw, hA, r150, o151⟩ := Row.made (w := w132) KPr (e := 60) ([(⟨(min (x) (y)), (max (x) (y))⟩ : Pr)] : List Pr) (by simp only [List.length_cons, List.length_nil]; unfold maxLen; omega)
          refine L (r_bs (z := .agg #[.int .i64 (0), .int .i64 (0)]) (size := 2) (vs := [(0, .agg #[.int .i64 ((min (x) (y))), .int .i64 ((max (x) (y)))])]) (cs := List.flatMap KPr.cells [(⟨(min (x) (y)), (max (x) (y))⟩ : Pr)]) Try.underlying23 Try.sizeOf60 zeroPr rfl (Fr.evalps Hz rfl) (by kernel_rfl)) Hz rfl ?_
          rw [← hw, ← hA]; clear Hz az; intro az Hz
          clear hw hA
          have ok152 : ∀ zq ∈ ([(⟨(min (x) (y)), (max (x) (y))⟩ : Pr)] : List Pr), KPr.ok zq := by intro zq hx; simp only [List.mem_cons, List.not_mem_nil, or_false] at hx; rcases hx with rfl <;> first | exact okc
          have r153 := (ow_k (ow_only (ow_k rO o128) s133 (fun k hk => lt_F (oneF_ge hg130) (Nat.le_refl _) k (ownF_lt rO k hk))) o151)
          have h154 := Row.own KPr r150 ok152
          have h155 := SliceOf.pl h154
          have hb163 : (List.length (O) + List.length ([(⟨(min (x) (y)), (max (x) (y))⟩ : Pr)])) * 16 ≤ 140737488355328 := by (try simp only [List.length_append, List.length_cons, List.length_nil]); omega
          have O164 := (Only.trans (Only.trans (Only.trans (Only.trans (Only.refl (fun _ => True) w92) o102 (fun _ _ => .inl trivial)) o128 (fun _ _ => .inl trivial)) s133 (fun _ _ => .inl trivial)) o151 (fun _ _ => .inl trivial))
          obtain ⟨A156, c157, w158, hr159, r160, o161, al162⟩ := Row.app (P := Try.prog) (l := O) (l2 := [(⟨(min (x) (y)), (max (x) (y))⟩ : Pr)]) KPr elemPr r153 h155 hb163 (by unfold maxLen; omega) (size_only O164)
          refine L (r_app hr159 Hz rfl rfl) Hz rfl ?_
          clear Hz az; intro az Hz
          have ok165 : ∀ zq ∈ (O ++ [(⟨(min (x) (y)), (max (x) (y))⟩ : Pr)]), KPr.ok zq := (fun x hx => (List.mem_append.1 hx).elim (okO x) ((Row.oks KPr h155) x))
          have h166 := Row.own KPr r160 ok165
          refine L (r_fa (m' := 1) Try.underlying25 rfl Try.sizeOf23 rfl Hz rfl rfl) Hz rfl ?_
          clear Hz az; intro az Hz
          have B167 := (Blk.only (Blk.k B147 o151) o161 (ow_nb r153 (Blk.k B147 o151) (by decide)))
          refine LSt (cs' := [.slice A62 (a.ms.length) c64, .slice A156 (((O ++ [(⟨(min (x) (y)), (max (x) (y))⟩ : Pr)])).length) c157]) Try.sizeOf23 Hz rfl rfl rfl rfl rfl ⟨rfl, trivial⟩ B167 rfl rfl fun w168 s169 B170 => ?_
          refine hK144 _ _ ?_
          -- ref.go:130
          refine wp_region_lit ?_
          refine L (r_as Hz rfl) Hz rfl ?_
          clear Hz az; intro az Hz
          refine hK135 _ _ ?_
          -- ref.go:132
          refine wp_region_lit ?_
          refine L (r_fa (m' := 1) Try.underlying25 rfl Try.sizeOf23 rfl Hz rfl rfl) Hz rfl ?_
          clear Hz az; intro az Hz
          refine L (r_ld Try.isAgg23 Hz rfl ((Blk.ca B170) 1 _ rfl)) Hz rfl ?_
          clear Hz az; intro az Hz
          have ne171 : g126 ≠ g72 := (ne_of hl77 (Nat.le_trans (size_only O146) hg130)).symm
          have B172 := (Blk.st (Blk.only (Blk.k B134 o151) o161 (fun h => absurd ((ownF_lt rO) _ h) (Nat.not_lt.2 (Nat.le_trans (Nat.le_refl _) hg130)))) s169 ne171)
          refine L (r_ldA Try.isAgg60 Try.sizeOf60 Hz rfl (Blk.ca B172) rfl) Hz rfl ?_
          clear Hz az; intro az Hz
          obtain ⟨A173, w174, hw, hA, r175, o176⟩ := Row.made (w := w168) KPr (e := 60) ([m117] : List Pr) (by simp only [List.length_cons, List.length_nil]; unfold maxLen; omega)
          refine L (r_bs (z := .agg #[.int .i64 (0), .int .i64 (0)]) (size := 2) (vs := [(0, .agg #[.int .i64 (m117.x), .int .i64 (m117.y)])]) (cs := List.flatMap KPr.cells [m117]) Try.underlying23 Try.sizeOf60 zeroPr rfl (Fr.evalps Hz rfl) (by kernel_rfl)) Hz rfl ?_
          rw [← hw, ← hA]; clear Hz az; intro az Hz
          clear hw hA
          have ok177 : ∀ zq ∈ ([m117] : List Pr), KPr.ok zq := by intro zq hx; simp only [List.mem_cons, List.not_mem_nil, or_false] at hx; rcases hx with rfl <;> first | exact ok119
          have O178 := (Only.trans (Only.trans (Only.trans (Only.trans (Only.refl (fun _ => True) w73) s79 (fun _ _ => .inl trivial)) s83 (fun _ _ => .inl trivial)) o88 (fun _ _ => .inl trivial)) s93 (fun _ _ => .inl trivial))
          have r179 := (ow_k (ow_only r160 s169 (fun k hk => ge_F (oneF_lt hl77) (size_only O178) k (ownF_ge r160 k hk))) o176)
          have h180 := Row.own KPr r175 ok177
          have h181 := SliceOf.pl h180
          have hb189 : (List.length ((O ++ [(⟨(min (x) (y)), (max (x) (y))⟩ : Pr)])) + List.length ([m117])) * 16 ≤ 140737488355328 := by (try simp only [List.length_append, List.length_cons, List.length_nil]); omega
          have O190 := (Only.trans (Only.trans (Only.trans (Only.trans (Only.trans (Only.trans (Only.trans (Only.refl (fun _ => True) w92) o102 (fun _ _ => .inl trivial)) o128 (fun _ _ => .inl trivial)) s133 (fun _ _ => .inl trivial)) o151 (fun _ _ => .inl trivial)) o161 (fun _ _ => .inl trivial)) s169 (fun _ _ => .inl trivial)) o176 (fun _ _ => .inl trivial))
          obtain ⟨A182, c183, w184, hr185, r186, o187, al188⟩ := Row.app (P := Try.prog) (l := (O ++ [(⟨(min (x) (y)), (max (x) (y))⟩ : Pr)])) (l2 := [m117]) KPr elemPr r179 h181 hb189 (by unfold maxLen; omega) (size_only O190)
          refine L (r_app hr185 Hz rfl rfl) Hz rfl ?_
          clear Hz az; intro az Hz
          have ok191 : ∀ zq ∈ ((O ++ [(⟨(min (x) (y)), (max (x) (y))⟩ : Pr)]) ++ [m117]), KPr.ok zq := (fun x hx => (List.mem_append.1 hx).elim (ok165 x) ((Row.oks KPr h181) x))
          have h192 := Row.own KPr r186 ok191
          refine L (r_fa (m' := 1) Try.underlying25 rfl Try.sizeOf23 rfl Hz rfl rfl) Hz rfl ?_
          clear Hz az; intro az Hz
          have B193 := (Blk.only (Blk.k B170 o176) o187 (ow_nb r179 (Blk.k B170 o176) (by decide)))
          refine LSt (cs' := [.slice A62 (a.ms.length) c64, .slice A182 ((((O ++ [(⟨(min (x) (y)), (max (x) (y))⟩ : Pr)]) ++ [m117])).length) c183]) Try.sizeOf23 Hz rfl rfl rfl rfl rfl ⟨rfl, trivial⟩ B193 rfl rfl fun w194 s195 B196 => ?_
          refine hK114 _ _ ?_
          -- ref.go:126
          refine wp_region_lit ?_
          refine L (r_mv Hz rfl) Hz rfl ?_
          clear Hz az; intro az Hz
          have i197 : I64 ((k : Int) + 1) := by unfold I64; omega
          refine L (r_addI (r := ((k : Int) + 1)) Hz rfl rfl rfl i197) Hz rfl ?_
          clear Hz az; intro az Hz
          refine L (r_as Hz rfl) Hz rfl ?_
          clear Hz az; intro az Hz
          have O198 := (Only.trans (Only.refl (fun _ => True) w92) o102 (fun _ _ => .inl trivial))
          have r199 := (ow_only r186 s195 (fun k hk => ge_F (oneF_lt hl77) (size_only O178) k (ownF_ge r186 k hk)))
          exact ⟨_, (by omega), k + 1, true, _, A182, c183, rfl, Hz.cut ⟨rfl, rfl, rfl, rfl, rfl, rfl, rfl, trivial⟩, (by omega), (Lnk.cutI_t hI hm118 hnc hrt hc141), (Only.trans (Only.trans (Only.trans (Only.trans (Only.trans (Only.trans (Only.trans (Only.trans (Only.trans (Only.refl (oneF g72) w92) o102 (fun _ h => .inl h)) o128 (fun _ h => h.elim)) s133 (fun k h => .inr (Nat.le_trans (size_only O198) ((oneF_ge hg130) k h)))) o151 (fun _ h => h.elim)) o161 (fun k h => .inr (Nat.le_trans (Nat.le_refl _) ((ownF_ge rO) k h)))) s169 (fun _ h => .inl h)) o176 (fun _ h => h.elim)) o187 (fun k h => .inr (Nat.le_trans (Nat.le_refl _) ((ownF_ge r160) k h)))) s195 (fun _ h => .inl h)), B196, r199⟩
        · -- else3
          have d200 := hc141
          refine wp_skip ?_
          refine hK135 _ _ ?_
          -- ref.go:132
          refine wp_region_lit ?_
          refine L (r_fa (m' := 1) Try.underlying25 rfl Try.sizeOf23 rfl Hz rfl rfl) Hz rfl ?_
          clear Hz az; intro az Hz
          have O202 := (Only.trans (Only.trans (Only.trans (Only.trans (Only.trans (Only.refl (fun _ => True) w73) s79 (fun _ _ => .inl trivial)) s83 (fun _ _ => .inl trivial)) o88 (fun _ _ => .inl trivial)) s93 (fun _ _ => .inl trivial)) o102 (fun _ _ => .inl trivial))
          have ne201 : g72 ≠ g126 := (ne_of hl77 (Nat.le_trans (size_only O202) hg130))
          have B203 := (Blk.st (Blk.k B104 o128) s133 ne201)
          refine L (r_ld Try.isAgg23 Hz rfl ((Blk.ca B203) 1 _ rfl)) Hz rfl ?_
          clear Hz az; intro az Hz
          refine L (r_ldA Try.isAgg60 Try.sizeOf60 Hz rfl (Blk.ca B134) rfl) Hz rfl ?_
          clear Hz az; intro az Hz
          obtain ⟨A204, w205, hw, hA, r206, o207⟩ := Row.made (w := w132) KPr (e := 60) ([m117] : List Pr) (by simp only [List.length_cons, List.length_nil]; unfold maxLen; omega)
          refine L (r_bs (z := .agg #[.int .i64 (0), .int .i64 (0)]) (size := 2) (vs := [(0, .agg #[.int .i64 (m117.x), .int .i64 (m117.y)])]) (cs := List.flatMap KPr.cells [m117]) Try.underlying23 Try.sizeOf60 zeroPr rfl (Fr.evalps Hz rfl) (by kernel_rfl)) Hz rfl ?_
          rw [← hw, ← hA]; clear Hz az; intro az Hz
          clear hw hA
          have ok208 : ∀ zq ∈ ([m117] : List Pr), KPr.ok zq := by intro zq hx; simp only [List.mem_cons, List.not_mem_nil, or_false] at hx; rcases hx with rfl <;> first | exact ok119
          have r209 := (ow_k (ow_only (ow_k rO o128) s133 (fun k hk => lt_F (oneF_ge hg130) (Nat.le_refl _) k (ownF_lt rO k hk))) o207)
          have h210 := Row.own KPr r206 ok208
          have h211 := SliceOf.pl h210
          have hb219 : (List.length (O) + List.length ([m117])) * 16 ≤ 140737488355328 := by (try simp only [List.length_append, List.length_cons, List.length_nil]); omega
          have O220 := (Only.trans (Only.trans (Only.trans (Only.trans (Only.refl (fun _ => True) w92) o102 (fun _ _ => .inl trivial)) o128 (fun _ _ => .inl trivial)) s133 (fun _ _ => .inl trivial)) o207 (fun _ _ => .inl trivial))
          obtain ⟨A212, c213, w214, hr215, r216, o217, al218⟩ := Row.app (P := Try.prog) (l := O) (l2 := [m117]) KPr elemPr r209 h211 hb219 (by unfold maxLen; omega) (size_only O220)
          refine L (r_app hr215 Hz rfl rfl) Hz rfl ?_
          clear Hz az; intro az Hz
          have ok221 : ∀ zq ∈ (O ++ [m117]), KPr.ok zq := (fun x hx => (List.mem_append.1 hx).elim (okO x) ((Row.oks KPr h211) x))
          have h222 := Row.own KPr r216 ok221
          refine L (r_fa (m' := 1) Try.underlying25 rfl Try.sizeOf23 rfl Hz rfl rfl) Hz rfl ?_
          clear Hz az; intro az Hz
          have B223 := (Blk.only (Blk.k B203 o207) o217 (ow_nb r209 (Blk.k B203 o207) (by decide)))
          refine LSt (cs' := [.slice A62 (a.ms.length) c64, .slice A212 (((O ++ [m117])).length) c213]) Try.sizeOf23 Hz rfl rfl rfl rfl rfl ⟨rfl, trivial⟩ B223 rfl rfl fun w224 s225 B226 => ?_
          refine hK114 _ _ ?_
          -- ref.go:126
          refine wp_region_lit ?_
          refine L (r_mv Hz rfl) Hz rfl ?_
          clear Hz az; intro az Hz
          have i227 : I64 ((k : Int) + 1) := by unfold I64; omega
          refine L (r_addI (r := ((k : Int) + 1)) Hz rfl rfl rfl i227) Hz rfl ?_
          clear Hz az; intro az Hz
          refine L (r_as Hz rfl) Hz rfl ?_
          clear Hz az; intro az Hz
          have O228 := (Only.trans (Only.refl (fun _ => True) w92) o102 (fun _ _ => .inl trivial))
          have O229 := (Only.trans (Only.trans (Only.trans (Only.trans (Only.refl (fun _ => True) w73) s79 (fun _ _ => .inl trivial)) s83 (fun _ _ => .inl trivial)) o88 (fun _ _ => .inl trivial)) s93 (fun _ _ => .inl trivial))
          have r230 := (ow_only r216 s225 (fun k hk => ge_F (oneF_lt hl77) (size_only O229) k (ownF_ge r216 k hk)))
          exact ⟨_, (by omega), k + 1, pb, _, A212, c213, rfl, Hz.cut ⟨rfl, rfl, rfl, rfl, rfl, rfl, rfl, trivial⟩, (by omega), (Lnk.cutI_f hI hm118 hnc hrt hc141), (Only.trans (Only.trans (Only.trans (Only.trans (Only.trans (Only.trans (Only.refl (oneF g72) w92) o102 (fun _ h => .inl h)) o128 (fun _ h => h.elim)) s133 (fun k h => .inr (Nat.le_trans (size_only O228) ((oneF_ge hg130) k h)))) o207 (fun _ h => h.elim)) o217 (fun k h => .inr (Nat.le_trans (Nat.le_refl _) ((ownF_ge rO) k h)))) s225 (fun _ h => .inl h)), B226, r230⟩
      · -- else2
        have p231 := of_decide_eq_false hc112
        refine wp_exit ?_
        refine th_exit ?_
        refine th_exit ?_
        refine ib_hit ?_
        refine hK96 _ _ ?_
        refine wp_seq_k fun K232 hK232 => ?_
        refine wp_seq_k fun K233 hK233 => ?_
        -- ref.go:134
        refine wp_region_lit ?_
        refine L (r_mv Hz rfl) Hz rfl ?_
        clear Hz az; intro az Hz
        refine L (r_not Hz rfl) Hz rfl ?_
        clear Hz az; intro az Hz
        refine hK233 _ _ ?_
        refine br Hz rfl (fun hc234 => ?_) (fun hc234 => ?_)
        · -- if4
          have q235 : pb = false := (nt_t hc234)
          -- ref.go:135
          refine wp_region_lit ?_
          refine L (r_fa (m' := 1) Try.underlying25 rfl Try.sizeOf23 rfl Hz rfl rfl) Hz rfl ?_
          clear Hz az; intro az Hz
          refine L (r_ld Try.isAgg23 Hz rfl ((Blk.ca B104) 1 _ rfl)) Hz rfl ?_
          clear Hz az; intro az Hz
          have ne236 : g86 ≠ g72 := (ne_of hl77 (Nat.le_trans (size_only O99) hg90)).symm
          have B237 := (Blk.st B94 o102 ne236)
          refine L (r_ldA Try.isAgg60 Try.sizeOf60 Hz rfl (Blk.ca B237) rfl) Hz rfl ?_
          clear Hz az; intro az Hz
          obtain ⟨A238, w239, hw, hA, r240, o241⟩ := Row.made (w := w101) KPr (e := 60) ([(⟨(min (x) (y)), (max (x) (y))⟩ : Pr)] : List Pr) (by simp only [List.length_cons, List.length_nil]; unfold maxLen; omega)
          refine L (r_bs (z := .agg #[.int .i64 (0), .int .i64 (0)]) (size := 2) (vs := [(0, .agg #[.int .i64 ((min (x) (y))), .int .i64 ((max (x) (y)))])]) (cs := List.flatMap KPr.cells [(⟨(min (x) (y)), (max (x) (y))⟩ : Pr)]) Try.underlying23 Try.sizeOf60 zeroPr rfl (Fr.evalps Hz rfl) (by kernel_rfl)) Hz rfl ?_
          rw [← hw, ← hA]; clear Hz az; intro az Hz
          clear hw hA
          have ok242 : ∀ zq ∈ ([(⟨(min (x) (y)), (max (x) (y))⟩ : Pr)] : List Pr), KPr.ok zq := by intro zq hx; simp only [List.mem_cons, List.not_mem_nil, or_false] at hx; rcases hx with rfl <;> first | exact okc
          have r243 := (ow_k rO o241)
          have h244 := Row.own KPr r240 ok242
          have h245 := SliceOf.pl h244
          have hb253 : (List.length (O) + List.length ([(⟨(min (x) (y)), (max (x) (y))⟩ : Pr)])) * 16 ≤ 140737488355328 := by (try simp only [List.length_append, List.length_cons, List.length_nil]); omega
          have O254 := (Only.trans (Only.trans (Only.refl (fun _ => True) w92) o102 (fun _ _ => .inl trivial)) o241 (fun _ _ => .inl trivial))
          obtain ⟨A246, c247, w248, hr249, r250, o251, al252⟩ := Row.app (P := Try.prog) (l := O) (l2 := [(⟨(min (x) (y)), (max (x) (y))⟩ : Pr)]) KPr elemPr r243 h245 hb253 (by unfold maxLen; omega) (size_only O254)
          refine L (r_app hr249 Hz rfl rfl) Hz rfl ?_
          clear Hz az; intro az Hz
          have ok255 : ∀ zq ∈ (O ++ [(⟨(min (x) (y)), (max (x) (y))⟩ : Pr)]), KPr.ok zq := (fun x hx => (List.mem_append.1 hx).elim (okO x) ((Row.oks KPr h245) x))
          have h256 := Row.own KPr r250 ok255
          refine L (r_fa (m' := 1) Try.underlying25 rfl Try.sizeOf23 rfl Hz rfl rfl) Hz rfl ?_
          clear Hz az; intro az Hz
          have B257 := (Blk.only (Blk.k B104 o241) o251 (ow_nb r243 (Blk.k B104 o241) (by decide)))
          refine LSt (cs' := [.slice A62 (a.ms.length) c64, .slice A246 (((O ++ [(⟨(min (x) (y)), (max (x) (y))⟩ : Pr)])).length) c247]) Try.sizeOf23 Hz rfl rfl rfl rfl rfl ⟨rfl, trivial⟩ B257 rfl rfl fun w258 s259 B260 => ?_
          refine hK232 _ _ ?_
          refine wp_seq_k fun K261 hK261 => ?_
          -- ref.go:137
          refine wp_region_lit ?_
          refine L (r_ldA Try.isAgg25 Try.sizeOf25 Hz rfl (Blk.ca B260) rfl) Hz rfl ?_
          clear Hz az; intro az Hz
          have O263 : Only NoF w9 w71 := (Only.trans' (Only.trans' (Only.trans' (Only.trans' o21 o23) o25) o47) o70)
          have ne262 : g8 ≠ g72 := (ne_of hl13 (Nat.le_trans (size_only O263) hg76))
          have O265 : Only NoF w9 w82 := (o_sg (o_sg (Only.trans' O263 o74) s79 (size_only O263) (oneF_ge hg76)) s83 (size_only O263) (oneF_ge hg76))
          have ne264 : g8 ≠ g86 := (ne_of hl13 (Nat.le_trans (size_only O265) hg90))
          have B266 := (Blk.st (Blk.only (Blk.k (Blk.st (Blk.st (Blk.k (Blk.st (Blk.st (Blk.k (Blk.k (Blk.k (Blk.k (Blk.k (Blk.k B11 o21) o23) o25) o47) o70) o74) s79 ne262) s83 ne262) o88) s93 ne264) o102 ne262) o241) o251 (ow_nb r243 (Blk.k (Blk.st (Blk.st (Blk.k (Blk.st (Blk.st (Blk.k (Blk.k (Blk.k (Blk.k (Blk.k (Blk.k B11 o21) o23) o25) o47) o70) o74) s79 ne262) s83 ne262) o88) s93 ne264) o102 ne262) o241) (by decide))) s259 ne262)
          refine LSt (cs' := [.slice A62 (a.ms.length) c64, .slice A246 (((O ++ [(⟨(min (x) (y)), (max (x) (y))⟩ : Pr)])).length) c247]) Try.sizeOf25 Hz rfl rfl rfl rfl rfl ⟨rfl, rfl, trivial⟩ B266 rfl rfl fun w267 s268 B269 => ?_
          refine L (r_as Hz rfl) Hz rfl ?_
          clear Hz az; intro az Hz
          refine hK261 _ _ ?_
          refine wp_ret ?_
          show bodyPost _ _ _ .ret _ _
          refine ret_of (vs := [.agg #[.slice A62 (a.ms.length) c64, .slice A246 (((O ++ [(⟨(min (x) (y)), (max (x) (y))⟩ : Pr)])).length) c247], .int .i64 (0)]) Hz Try.results19 ⟨⟨_, rfl, l_ca Try.isAgg25 Try.sizeOf25 (Blk.ca B269) rfl⟩, rfl, trivial⟩ ?_
          have O270 : Only NoF w71 w82 := (o_sg (o_sg o74 s79 (Nat.le_refl _) (oneF_ge hg76)) s83 (Nat.le_refl _) (oneF_ge hg76))
          have O271 : Only NoF w9 w46 := (Only.trans' (Only.trans' (Only.trans' o21 o23) o25) o47)
          have r272 := (ow_only (ow_only (ow_only (ow_k (ow_only (ow_only (ow_k (ow_only (ow_only (ow_k r66 o74) s79 (fun k hk => lt_F (oneF_ge hg76) (Nat.le_refl _) k (ownF_lt r66 k hk))) s83 (fun k hk => lt_F (oneF_ge hg76) (Nat.le_refl _) k (ownF_lt r66 k hk))) o88) s93 (fun k hk => lt_F (oneF_ge hg90) (size_only O270) k (ownF_lt r66 k hk))) o102 (fun k hk => lt_F (oneF_ge hg76) (Nat.le_refl _) k (ownF_lt r66 k hk))) o241) o251 (ow_ne (ow_k (ow_only (ow_only (ow_k (ow_only (ow_only (ow_k r66 o74) s79 (fun k hk => lt_F (oneF_ge hg76) (Nat.le_refl _) k (ownF_lt r66 k hk))) s83 (fun k hk => lt_F (oneF_ge hg76) (Nat.le_refl _) k (ownF_lt r66 k hk))) o88) s93 (fun k hk => lt_F (oneF_ge hg90) (size_only O270) k (ownF_lt r66 k hk))) o102 (fun k hk => lt_F (oneF_ge hg76) (Nat.le_refl _) k (ownF_lt r66 k hk))) o241) r243 (by decide))) s259 (fun k hk => lt_F (oneF_ge hg76) (Nat.le_refl _) k (ownF_lt r66 k hk))) s268 (fun k hk => ge_F (oneF_lt hl13) (size_only O271) k (ownF_ge (ow_only (ow_only (ow_k (ow_only (ow_only (ow_k (ow_only (ow_only (ow_k r66 o74) s79 (fun k hk => lt_F (oneF_ge hg76) (Nat.le_refl _) k (ownF_lt r66 k hk))) s83 (fun k hk => lt_F (oneF_ge hg76) (Nat.le_refl _) k (ownF_lt r66 k hk))) o88) s93 (fun k hk => lt_F (oneF_ge hg90) (size_only O270) k (ownF_lt r66 k hk))) o102 (fun k hk => lt_F (oneF_ge hg76) (Nat.le_refl _) k (ownF_lt r66 k hk))) o241) o251 (ow_ne (ow_k (ow_only (ow_only (ow_k (ow_only (ow_only (ow_k r66 o74) s79 (fun k hk => lt_F (oneF_ge hg76) (Nat.le_refl _) k (ownF_lt r66 k hk))) s83 (fun k hk => lt_F (oneF_ge hg76) (Nat.le_refl _) k (ownF_lt r66 k hk))) o88) s93 (fun k hk => lt_F (oneF_ge hg90) (size_only O270) k (ownF_lt r66 k hk))) o102 (fun k hk => lt_F (oneF_ge hg76) (Nat.le_refl _) k (ownF_lt r66 k hk))) o241) r243 (by decide))) s259 (fun k hk => lt_F (oneF_ge hg76) (Nat.le_refl _) k (ownF_lt r66 k hk))) k hk)))
          have O273 := (Only.trans (Only.trans (Only.trans (Only.trans (Only.refl (fun _ => True) w73) s79 (fun _ _ => .inl trivial)) s83 (fun _ _ => .inl trivial)) o88 (fun _ _ => .inl trivial)) s93 (fun _ _ => .inl trivial))
          have O274 : Only NoF w9 w92 := (o_sg (Only.trans' O265 o88) s93 (size_only O265) (oneF_ge hg90))
          have r275 := (ow_only (ow_only r250 s259 (fun k hk => ge_F (oneF_lt hl77) (size_only O273) k (ownF_ge r250 k hk))) s268 (fun k hk => ge_F (oneF_lt hl13) (size_only O274) k (ownF_ge (ow_only r250 s259 (fun k hk => ge_F (oneF_lt hl77) (size_only O273) k (ownF_ge r250 k hk))) k hk)))
          have O276 : Only NoF w w71 := (Only.trans' O59 o70)
          have O277 : Only NoF w w82 := (o_sg (o_sg (Only.trans' O276 o74) s79 (size_only O276) (oneF_ge hg76)) s83 (size_only O276) (oneF_ge hg76))
          have O278 : Only NoF w w92 := (o_sg (Only.trans' (o_sg (o_sg (Only.trans' (Only.trans' O59 o70) o74) s79 (size_only O276) (oneF_ge hg76)) s83 (size_only O276) (oneF_ge hg76)) o88) s93 (size_only O277) (oneF_ge hg90))
          rw [Lnk.rc3n hc26 hc48 hI (by omega) hc234]
          have O279 : Only NoF w w267 := (o_sg (o_sg (o_sg (Only.trans' (o_sg O278 o102 (size_only O276) (oneF_ge hg76)) o241) o251 (size_only O278) (ownF_ge rO)) s259 (size_only O276) (oneF_ge hg76)) s268 (size_only o4) (oneF_ge hg12))
          exact ⟨_, _, _, _, rfl, (ow_low r272 (size_only O59)), (ow_low r275 (size_only O278)), k68, ok255, O279⟩
        · -- else4
          have q280 : pb = true := (nt_f hc234)
          refine wp_skip ?_
          refine hK232 _ _ ?_
          refine wp_seq_k fun K281 hK281 => ?_
          -- ref.go:137
          refine wp_region_lit ?_
          refine L (r_ldA Try.isAgg25 Try.sizeOf25 Hz rfl (Blk.ca B104) rfl) Hz rfl ?_
          clear Hz az; intro az Hz
          have O283 : Only NoF w9 w71 := (Only.trans' (Only.trans' (Only.trans' (Only.trans' o21 o23) o25) o47) o70)
          have ne282 : g8 ≠ g72 := (ne_of hl13 (Nat.le_trans (size_only O283) hg76))
          have O285 : Only NoF w9 w82 := (o_sg (o_sg (Only.trans' O283 o74) s79 (size_only O283) (oneF_ge hg76)) s83 (size_only O283) (oneF_ge hg76))
          have ne284 : g8 ≠ g86 := (ne_of hl13 (Nat.le_trans (size_only O285) hg90))
          have B286 := (Blk.st (Blk.st (Blk.k (Blk.st (Blk.st (Blk.k (Blk.k (Blk.k (Blk.k (Blk.k (Blk.k B11 o21) o23) o25) o47) o70) o74) s79 ne282) s83 ne282) o88) s93 ne284) o102 ne282)
          refine LSt (cs' := [.slice A62 (a.ms.length) c64, .slice Ao (O.length) co]) Try.sizeOf25 Hz rfl rfl rfl rfl rfl ⟨rfl, rfl, trivial⟩ B286 rfl rfl fun w287 s288 B289 => ?_
          refine L (r_as Hz rfl) Hz rfl ?_
          clear Hz az; intro az Hz
          refine hK281 _ _ ?_
          refine wp_ret ?_
          show bodyPost _ _ _ .ret _ _
          refine ret_of (vs := [.agg #[.slice A62 (a.ms.length) c64, .slice Ao (O.length) co], .int .i64 (0)]) Hz Try.results19 ⟨⟨_, rfl, l_ca Try.isAgg25 Try.sizeOf25 (Blk.ca B289) rfl⟩, rfl, trivial⟩ ?_
          have O290 : Only NoF w71 w82 := (o_sg (o_sg o74 s79 (Nat.le_refl _) (oneF_ge hg76)) s83 (Nat.le_refl _) (oneF_ge hg76))
          have O291 : Only NoF w9 w46 := (Only.trans' (Only.trans' (Only.trans' o21 o23) o25) o47)
          have r292 := (ow_only (ow_only (ow_only (ow_k (ow_only (ow_only (ow_k r66 o74) s79 (fun k hk => lt_F (oneF_ge hg76) (Nat.le_refl _) k (ownF_lt r66 k hk))) s83 (fun k hk => lt_F (oneF_ge hg76) (Nat.le_refl _) k (ownF_lt r66 k hk))) o88) s93 (fun k hk => lt_F (oneF_ge hg90) (size_only O290) k (ownF_lt r66 k hk))) o102 (fun k hk => lt_F (oneF_ge hg76) (Nat.le_refl _) k (ownF_lt r66 k hk))) s288 (fun k hk => ge_F (oneF_lt hl13) (size_only O291) k (ownF_ge (ow_only (ow_only (ow_k (ow_only (ow_only (ow_k r66 o74) s79 (fun k hk => lt_F (oneF_ge hg76) (Nat.le_refl _) k (ownF_lt r66 k hk))) s83 (fun k hk => lt_F (oneF_ge hg76) (Nat.le_refl _) k (ownF_lt r66 k hk))) o88) s93 (fun k hk => lt_F (oneF_ge hg90) (size_only O290) k (ownF_lt r66 k hk))) o102 (fun k hk => lt_F (oneF_ge hg76) (Nat.le_refl _) k (ownF_lt r66 k hk))) k hk)))
          have O293 : Only NoF w9 w92 := (o_sg (Only.trans' O285 o88) s93 (size_only O285) (oneF_ge hg90))
          have r294 := (ow_only rO s288 (fun k hk => ge_F (oneF_lt hl13) (size_only O293) k (ownF_ge rO k hk)))
          have O295 : Only NoF w w71 := (Only.trans' O59 o70)
          have O296 : Only NoF w w82 := (o_sg (o_sg (Only.trans' O295 o74) s79 (size_only O295) (oneF_ge hg76)) s83 (size_only O295) (oneF_ge hg76))
          have O297 : Only NoF w w92 := (o_sg (Only.trans' (o_sg (o_sg (Only.trans' (Only.trans' O59 o70) o74) s79 (size_only O295) (oneF_ge hg76)) s83 (size_only O295) (oneF_ge hg76)) o88) s93 (size_only O296) (oneF_ge hg90))
          rw [Lnk.rc3p hc26 hc48 hI (by omega) hc234]
          have O298 : Only NoF w w287 := (o_sg (o_sg O297 o102 (size_only O295) (oneF_ge hg76)) s288 (size_only o4) (oneF_ge hg12))
          exact ⟨_, _, _, _, rfl, (ow_low r292 (size_only O59)), (ow_low r294 (size_only O297)), k68, okO, O298⟩

theorem rCut_v {w : World} {v : Value} {a : Air} (h : AirV w v a) (hf : Few_ a) (x y : Int) (hx : I64 x) (hy : I64 y) : Calls Try.prog 19 #[v, .int .i64 x, .int .i64 y] w (AirO w (Lnk.cut a x y)) := by
  obtain ⟨v1, v2, rfl, f1, f2⟩ := h
  obtain ⟨A1, c1, rfl, _⟩ := SliceOf.shape f1
  obtain ⟨A2, c2, rfl, _⟩ := SliceOf.shape f2
  exact rCut_v_ f1 f2 hf x y hx hy

set_option maxHeartbeats 4000000 in
theorem rHeal_v_ {w : World} {a : Air} {A1 A2 : Option Addr} {c1 c2 : Nat} (f1 : Msgs w (.slice A1 a.ms.length c1) a.ms) (f2 : Prs w (.slice A2 a.cs.length c2) a.cs) (hf : a.ms.length ≤ 1000000 ∧ a.cs.length ≤ 1000000) (x y : Int) : Calls Try.prog 21 #[.agg #[.slice A1 a.ms.length c1, .slice A2 a.cs.length c2], .int .i64 x, .int .i64 y] w (AirO w (Lnk.heal a x y)) := by
  have hb1 := Nat.le_trans (SliceOf.cap_ f1) (SliceOf.lens f1).2
  have hb2 := Nat.le_trans (SliceOf.cap_ f2) (SliceOf.lens f2).2
  refine calls_start Try.func21 rfl rfl ?_
  intro az Hz
  rw [Try.ntmps21] at Hz
  refine wp_seq_k fun K1 hK1 => ?_
  -- ref.go:141
  refine wp_region_lit ?_
  refine LBox Hz rfl rfl rfl ?_
  clear Hz az; intro g2 w3 hg6 hl7 o4 B5 az Hz
  refine LAl (v := .agg #[.slice none (0) 0, .slice none (0) 0]) zeroAir Hz rfl rfl ?_
  clear Hz az; intro g8 w9 hg12 hl13 o10 B11 az Hz
  refine L (r_as Hz rfl) Hz rfl ?_
  clear Hz az; intro az Hz
  refine hK1 _ _ ?_
  refine wp_seq_k fun K14 hK14 => ?_
  refine wp_seq_k fun K15 hK15 => ?_
  -- ref.go:142
  refine wp_region_lit ?_
  have B16 := (Blk.k B5 o10)
  refine L (r_ldA Try.isAgg25 Try.sizeOf25 Hz rfl (Blk.ca B16) rfl) Hz rfl ?_
  clear Hz az; intro az Hz
  have O17 : Only NoF w w9 := (Only.trans' o4 o10)
  have h18 := (SliceOf.kp f1 O17 (fun _ _ h => h) (fun _ _ _ _ h => h))
  have h19 := (SliceOf.kp f2 O17 (fun _ _ h => h) (fun _ _ _ _ h => h))
  refine LCV (v := .bool (Lnk.right a)) Hz rfl rfl Try.call29 (rRight_v (show AirV _ _ a from ⟨_, _, rfl, h18, h19⟩)) rfl fun w20 o21 => ?_
  clear Hz az; intro az Hz
  refine L (r_not Hz rfl) Hz rfl ?_
  clear Hz az; intro az Hz
  refine L (r_mv Hz rfl) Hz rfl ?_
  clear Hz az; intro az Hz
  refine LG Hz rfl rfl gd_f (fun hb => r_mv Hz rfl) rfl ?_
  clear Hz az; intro az Hz
  refine LGV (v := .bool (((decide (0 ≤ x)) && (decide (x < 400))))) Hz rfl rfl gd_f rfl (fun hb => (evs_c (evg hb rfl) rfl)) Try.call47 (fun hb => rhouse_v _ x) rfl fun w22 o23 => ?_
  clear Hz az; intro az Hz
  refine LG Hz rfl rfl gd_f (fun hb => r_not Hz (evg hb rfl)) rfl ?_
  clear Hz az; intro az Hz
  refine L (r_or Hz rfl rfl rfl) Hz rfl ?_
  clear Hz az; intro az Hz
  refine L (r_mv Hz rfl) Hz rfl ?_
  clear Hz az; intro az Hz
  refine LG Hz rfl rfl gd_f (fun hb => r_mv Hz rfl) rfl ?_
  clear Hz az; intro az Hz
  refine LGV (v := .bool (((decide (0 ≤ y)) && (decide (y < 400))))) Hz rfl rfl gd_f rfl (fun hb => (evs_c (evg hb rfl) rfl)) Try.call47 (fun hb => rhouse_v _ y) rfl fun w24 o25 => ?_
  clear Hz az; intro az Hz
  refine LG Hz rfl rfl gd_f (fun hb => r_not Hz (evg hb rfl)) rfl ?_
  clear Hz az; intro az Hz
  refine L (r_or Hz rfl rfl rfl) Hz rfl ?_
  clear Hz az; intro az Hz
  refine L (r_mv Hz rfl) Hz rfl ?_
  clear Hz az; intro az Hz
  refine LG Hz rfl rfl gd_f (fun hb => r_mv Hz rfl) rfl ?_
  clear Hz az; intro az Hz
  refine LG Hz rfl rfl gd_f (fun hb => r_mv Hz rfl) rfl ?_
  clear Hz az; intro az Hz
  refine LG Hz rfl rfl gd_f (fun hb => r_eqI Hz (evg hb rfl) (evg hb rfl)) rfl ?_
  clear Hz az; intro az Hz
  refine L (r_or Hz rfl rfl rfl) Hz rfl ?_
  clear Hz az; intro az Hz
  refine hK15 _ _ ?_
  refine br Hz rfl (fun hc26 => ?_) (fun hc26 => ?_)
  · -- if0
    have d27 := hc26
    refine wp_seq_k fun K28 hK28 => ?_
    -- ref.go:143
    refine wp_region_lit ?_
    refine L (r_bd (v := .agg #[.slice none (0) 0, .slice none (0) 0]) build_Air0 Hz rfl) Hz rfl ?_
    clear Hz az; intro az Hz
    have B29 := (Blk.k (Blk.k (Blk.k B11 o21) o23) o25)
    refine LSt (cs' := [.slice none (0) 0, .slice none (0) 0]) Try.sizeOf25 Hz rfl rfl rfl rfl rfl ⟨rfl, rfl, trivial⟩ B29 rfl rfl fun w30 s31 B32 => ?_
    refine L (r_as Hz rfl) Hz rfl ?_
    clear Hz az; intro az Hz
    refine hK28 _ _ ?_
    refine wp_ret ?_
    show bodyPost _ _ _ .ret _ _
    refine ret_of (vs := [.agg #[.slice none (0) 0, .slice none (0) 0], .int .i64 (1)]) Hz Try.results21 ⟨⟨_, rfl, l_ca Try.isAgg25 Try.sizeOf25 (Blk.ca B32) rfl⟩, rfl, trivial⟩ ?_
    rw [Lnk.rh1 hc26]
    have O33 : Only NoF w w30 := (o_sg (Only.trans' (Only.trans' (Only.trans' O17 o21) o23) o25) s31 (size_only o4) (oneF_ge hg12))
    exact ⟨_, _, _, _, rfl, (World.ownsRow_nil _ _ _ _), (World.ownsRow_nil _ _ _ _), (fun x hx => by cases hx), (fun x hx => by cases hx), O33⟩
  · -- else0
    have q34 : Lnk.right a = true := (nt_f (or_f (or_f (or_f hc26).1).1).1)
    have p35 := of_decide_eq_true (and_t (nt_f (or_f (or_f (or_f hc26).1).1).2)).1
    have p36 := of_decide_eq_true (and_t (nt_f (or_f (or_f (or_f hc26).1).1).2)).2
    have p37 := of_decide_eq_true (and_t (nt_f (or_f (or_f hc26).1).2)).1
    have p38 := of_decide_eq_true (and_t (nt_f (or_f (or_f hc26).1).2)).2
    have p39 := of_decide_eq_false (or_f hc26).2
    refine wp_skip ?_
    refine hK14 _ _ ?_
    refine wp_seq_k fun K40 hK40 => ?_
    refine wp_seq_k fun K41 hK41 => ?_
    -- ref.go:145
    refine wp_region_lit ?_
    have B42 := (Blk.k (Blk.k (Blk.k B16 o21) o23) o25)
    refine L (r_ldA Try.isAgg25 Try.sizeOf25 Hz rfl (Blk.ca B42) rfl) Hz rfl ?_
    clear Hz az; intro az Hz
    refine L (r_mv Hz rfl) Hz rfl ?_
    clear Hz az; intro az Hz
    refine L (r_mv Hz rfl) Hz rfl ?_
    clear Hz az; intro az Hz
    have O43 : Only NoF w w24 := (Only.trans' (Only.trans' (Only.trans' O17 o21) o23) o25)
    have h44 := (SliceOf.kp f1 O43 (fun _ _ h => h) (fun _ _ _ _ h => h))
    have h45 := (SliceOf.kp f2 O43 (fun _ _ h => h) (fun _ _ _ _ h => h))
    refine LCV (v := .bool (Lnk.isCut a (x) (y))) Hz rfl rfl Try.call48 (risCut_v (show AirV _ _ a from ⟨_, _, rfl, h44, h45⟩) x y) rfl fun w46 o47 => ?_
    clear Hz az; intro az Hz
    refine L (r_not Hz rfl) Hz rfl ?_
    clear Hz az; intro az Hz
    refine hK41 _ _ ?_
    refine br Hz rfl (fun hc48 => ?_) (fun hc48 => ?_)
    · -- if1
      have q49 : Lnk.isCut a (x) (y) = false := (nt_t hc48)
      refine wp_seq_k fun K50 hK50 => ?_
      -- ref.go:146
      refine wp_region_lit ?_
      refine L (r_bd (v := .agg #[.slice none (0) 0, .slice none (0) 0]) build_Air0 Hz rfl) Hz rfl ?_
      clear Hz az; intro az Hz
      have B51 := (Blk.k (Blk.k (Blk.k (Blk.k B11 o21) o23) o25) o47)
      refine LSt (cs' := [.slice none (0) 0, .slice none (0) 0]) Try.sizeOf25 Hz rfl rfl rfl rfl rfl ⟨rfl, rfl, trivial⟩ B51 rfl rfl fun w52 s53 B54 => ?_
      refine L (r_as Hz rfl) Hz rfl ?_
      clear Hz az; intro az Hz
      refine hK50 _ _ ?_
      refine wp_ret ?_
      show bodyPost _ _ _ .ret _ _
      refine ret_of (vs := [.agg #[.slice none (0) 0, .slice none (0) 0], .int .i64 (4)]) Hz Try.results21 ⟨⟨_, rfl, l_ca Try.isAgg25 Try.sizeOf25 (Blk.ca B54) rfl⟩, rfl, trivial⟩ ?_
      rw [Lnk.rh2 hc26 hc48]
      have O55 : Only NoF w w52 := (o_sg (Only.trans' O43 o47) s53 (size_only o4) (oneF_ge hg12))
      exact ⟨_, _, _, _, rfl, (World.ownsRow_nil _ _ _ _), (World.ownsRow_nil _ _ _ _), (fun x hx => by cases hx), (fun x hx => by cases hx), O55⟩
    · -- else1
      have q56 : Lnk.isCut a (x) (y) = true := (nt_f hc48)
      refine wp_skip ?_
      refine hK40 _ _ ?_
      refine wp_seq_k fun K57 hK57 => ?_
      -- ref.go:148
      refine wp_region_lit ?_
      have B58 := (Blk.k B42 o47)
      refine L (r_ldA Try.isAgg25 Try.sizeOf25 Hz rfl (Blk.ca B58) rfl) Hz rfl ?_
      clear Hz az; intro az Hz
      have O59 : Only NoF w w46 := (Only.trans' O43 o47)
      have h60 := (SliceOf.kp f1 O59 (fun _ _ h => h) (fun _ _ _ _ h => h))
      have h61 := (SliceOf.kp f2 O59 (fun _ _ h => h) (fun _ _ _ _ h => h))
      refine LC Hz rfl rfl Try.call38 (rcopied_all (show AirV _ _ a from ⟨_, _, rfl, h60, h61⟩) hf) rfl ?_
      rintro e w71 ⟨A62, c64, A63, c65, rfl, r66, r67, k68, k69, o70⟩; refine ⟨_, rfl, ?_⟩
      clear Hz az; intro az Hz
      refine LAl (v := .agg #[.slice none (0) 0, .slice none (0) 0]) zeroAir Hz rfl rfl ?_
      clear Hz az; intro g72 w73 hg76 hl77 o74 B75 az Hz
      refine LSt (cs' := [.slice A62 (a.ms.length) c64, .slice A63 (a.cs.length) c65]) Try.sizeOf25 Hz rfl rfl rfl rfl rfl ⟨rfl, rfl, trivial⟩ B75 rfl rfl fun w78 s79 B80 => ?_
      refine hK57 _ _ ?_
      refine wp_seq_k fun K81 hK81 => ?_
      -- ref.go:149
      refine wp_region_lit ?_
      refine L (r_fa (m' := 1) Try.underlying25 rfl Try.sizeOf23 rfl Hz rfl rfl) Hz rfl ?_
      clear Hz az; intro az Hz
      refine LSt (cs' := [.slice A62 (a.ms.length) c64, .slice none (0) 0]) Try.sizeOf23 Hz rfl rfl rfl rfl rfl ⟨rfl, trivial⟩ B80 rfl rfl fun w82 s83 B84 => ?_
      refine hK81 _ _ ?_
      refine wp_seq_k fun K85 hK85 => ?_
      refine wp_seq_k fun K86 hK86 => ?_
      -- ref.go:150
      refine wp_region_lit ?_
      refine L (r_as Hz rfl) Hz rfl ?_
      clear Hz az; intro az Hz
      refine hK86 _ _ ?_
      refine wp_block ?_
      refine wp_loop_m (fun mz az W => ∃ k : Nat, ∃ O : List Pr, ∃ Ao : Option Addr, ∃ co : Nat, mz = a.cs.length - k ∧ Fr 78 [(1, .int .i64 (x)), (2, .int .i64 (y)), (3, .pointer (some ((⟨g2, 0, none⟩ : Addr)))), (6, .pointer (some ((⟨g8, 0, none⟩ : Addr)))), (7, .int .i64 (0)), (8, .pointer (some ((⟨g72, 0, none⟩ : Addr)))), (9, .int .i64 ((k : Int)))] az ∧ (k ≤ a.cs.length) ∧ (O = (a.cs.take k).filter (fun q => q != Lnk.pair x y)) ∧ Only (oneF g72) w82 W ∧ Blk W g72 25 [.slice A62 (a.ms.length) c64, .slice Ao (O.length) co].toArray ∧ W.ownsRow w82.heap.size 60 2 (.slice Ao (O).length co) (O).length (List.flatMap KPr.cells O)) ?_ ?_
      · -- start
        exact ⟨_, 0, [], none, 0, rfl, Hz.cut ⟨rfl, rfl, rfl, rfl, rfl, rfl, rfl, trivial⟩, Nat.zero_le _, (by simp), (Only.refl (oneF g72) w82), B84, (World.ownsRow_nil _ _ _ _)⟩
      clear Hz az
      rintro mz az w87 ⟨k, O, Ao, co, hm89, Hz, hk, hO, o88, B90, rO⟩
      have hol : O.length ≤ k := by rw [hO]; have h := List.length_filter_le (fun q => q != Lnk.pair x y) (a.cs.take k); rw [List.length_take] at h; omega
      have okO : ∀ zq ∈ O, KPr.ok zq := by rw [hO]; exact fun x hx => Row.oks KPr f2 x (List.mem_of_mem_take (List.mem_filter.1 hx).1)
      refine wp_seq_k fun K91 hK91 => ?_
      refine wp_seq_k fun K92 hK92 => ?_
      -- ref.go:150
      refine wp_region_lit ?_
      refine L (r_mv Hz rfl) Hz rfl ?_
      clear Hz az; intro az Hz
      refine L (r_fa (m' := 1) Try.underlying25 rfl Try.sizeOf23 rfl Hz rfl rfl) Hz rfl ?_
      clear Hz az; intro az Hz
      have O94 : Only NoF w3 w71 := (Only.trans' (Only.trans' (Only.trans' (Only.trans' (Only.trans' o10 o21) o23) o25) o47) o70)
      have ne93 : g2 ≠ g72 := (ne_of hl7 (Nat.le_trans (size_only O94) hg76))
      have B95 := (Blk.st (Blk.st (Blk.st (Blk.k (Blk.k B58 o70) o74) s79 ne93) s83 ne93) o88 ne93)
      refine L (r_ld Try.isAgg23 Hz rfl ((Blk.ca B95) 1 _ rfl)) Hz rfl ?_
      clear Hz az; intro az Hz
      refine L (r_lenL Try.underlying23 Hz rfl) Hz rfl ?_
      clear Hz az; intro az Hz
      refine L (r_ltI Hz rfl rfl) Hz rfl ?_
      clear Hz az; intro az Hz
      refine hK92 _ _ ?_
      refine br Hz rfl (fun hc96 => ?_) (fun hc96 => ?_)
      · -- if2
        have p97 := of_decide_eq_true hc96
        refine wp_skip ?_
        refine hK91 _ _ ?_
        refine wp_seq_k fun K98 hK98 => ?_
        refine wp_block ?_
        refine wp_seq_k fun K99 hK99 => ?_
        -- ref.go:151
        refine wp_region_lit ?_
        refine L (r_fa (m' := 1) Try.underlying25 rfl Try.sizeOf23 rfl Hz rfl rfl) Hz rfl ?_
        clear Hz az; intro az Hz
        refine L (r_ld Try.isAgg23 Hz rfl ((Blk.ca B95) 1 _ rfl)) Hz rfl ?_
        clear Hz az; intro az Hz
        refine L (r_mv Hz rfl) Hz rfl ?_
        clear Hz az; intro az Hz
        have hk100 : k < (a.cs).length := by omega
        have O106 : Only NoF w w71 := (Only.trans' O59 o70)
        have O107 : Only NoF w w87 := (o_sg (o_sg (o_sg (Only.trans' (Only.trans' O59 o70) o74) s79 (size_only O106) (oneF_ge hg76)) s83 (size_only O106) (oneF_ge hg76)) o88 (size_only O106) (oneF_ge hg76))
        have h108 := (SliceOf.kp f2 O107 (fun _ _ h => h) (fun _ _ _ _ h => h))
        obtain ⟨m101, hm102, ok103, hA104⟩ := Row.el KPr h108 hk100
        have E105 : ∀ W, Only NoF w87 W → CA W (eA A2 2 (k)) [.int .i64 (m101.x), .int .i64 (m101.y)] := Row.ce KPr h108 hm102 rfl
        refine L (r_ia (k := k) (size := 2) Try.underlying23 Try.sizeOf60 Hz rfl rfl rfl hk100 hA104) Hz rfl ?_
        clear Hz az; intro az Hz
        refine L (r_fa (m' := 0) Try.underlying60 rfl Try.sizeOf3 rfl Hz rfl rfl) Hz rfl ?_
        clear Hz az; intro az Hz
        refine L (r_ld Try.isAgg3 Hz rfl ((E105 _ (Only.refl NoF w87)) 0 _ rfl)) Hz rfl ?_
        clear Hz az; intro az Hz
        refine L (r_mv Hz rfl) Hz rfl ?_
        clear Hz az; intro az Hz
        refine L (r_mv Hz rfl) Hz rfl ?_
        clear Hz az; intro az Hz
        refine L (r_min Hz rfl rfl) Hz rfl ?_
        clear Hz az; intro az Hz
        refine L (r_neI Hz rfl rfl) Hz rfl ?_
        clear Hz az; intro az Hz
        refine L (r_mv Hz rfl) Hz rfl ?_
        clear Hz az; intro az Hz
        refine LG Hz rfl rfl gd_f (fun hb => r_fa (m' := 1) Try.underlying25 rfl Try.sizeOf23 rfl Hz rfl rfl) rfl ?_
        clear Hz az; intro az Hz
        refine LG Hz rfl rfl gd_f (fun hb => r_ld Try.isAgg23 Hz (evg hb rfl) ((Blk.ca B95) 1 _ rfl)) rfl ?_
        clear Hz az; intro az Hz
        refine LG Hz rfl rfl gd_f (fun hb => r_mv Hz rfl) rfl ?_
        clear Hz az; intro az Hz
        refine LG Hz rfl rfl gd_f (fun hb => r_ia (k := k) (size := 2) Try.underlying23 Try.sizeOf60 Hz (evg hb rfl) (evg hb rfl) rfl hk100 hA104) rfl ?_
        clear Hz az; intro az Hz
        refine LG Hz rfl rfl gd_f (fun hb => r_fa (m' := 1) Try.underlying60 rfl Try.sizeOf3 rfl Hz (evg hb rfl) rfl) rfl ?_
        clear Hz az; intro az Hz
        refine LG Hz rfl rfl gd_f (fun hb => r_ld Try.isAgg3 Hz (evg hb rfl) ((E105 _ (Only.refl NoF w87)) 1 _ rfl)) rfl ?_
        clear Hz az; intro az Hz
        refine LG Hz rfl rfl gd_f (fun hb => r_mv Hz rfl) rfl ?_
        clear Hz az; intro az Hz
        refine LG Hz rfl rfl gd_f (fun hb => r_mv Hz rfl) rfl ?_
        clear Hz az; intro az Hz
        refine LG Hz rfl rfl gd_f (fun hb => r_max Hz (evg hb rfl) (evg hb rfl)) rfl ?_
        clear Hz az; intro az Hz
        refine LG Hz rfl rfl gd_f (fun hb => r_neI Hz (evg hb rfl) (evg hb rfl)) rfl ?_
        clear Hz az; intro az Hz
        refine L (r_or Hz rfl rfl rfl) Hz rfl ?_
        clear Hz az; intro az Hz
        refine hK99 _ _ ?_
        refine br Hz rfl (fun hc109 => ?_) (fun hc109 => ?_)
        · -- if3
          have d110 := hc109
          -- ref.go:152
          refine reg_m (orF (ownF (.slice Ao (O.length) co)) (oneF g72)) 1 [7, 8, 10] [(true, 0), (true, 1), (true, 2), (true, 3), (true, 4), (true, 5), (true, 6), (false, 7), (false, 8), (true, 9), (false, 10)] (by kernel_rfl) (by kernel_rfl) (fun _ _ _ _ _ h => h) fun w111 o112 => ?_
          have B113 := (Blk.k B90 o112)
          have B114 := (Blk.k B95 o112)
          refine MSP (b := false) (by kernel_rfl) (fun W oW => r_fa (m' := 1) Try.underlying25 rfl Try.sizeOf23 rfl Hz rfl rfl) Hz rfl rfl ?_
          clear Hz az; intro az Hz
          refine MSP (b := true) (by kernel_rfl) (fun W oW => r_ld Try.isAgg23 Hz rfl ((Blk.ca (Blk.k B113 oW)) 1 _ rfl)) Hz rfl rfl ?_
          clear Hz az; intro az Hz
          refine MSP (b := false) (by kernel_rfl) (fun W oW => r_fa (m' := 1) Try.underlying25 rfl Try.sizeOf23 rfl Hz rfl rfl) Hz rfl rfl ?_
          clear Hz az; intro az Hz
          have r115 := (ow_k rO o112)
          refine MSP (b := false) (by kernel_rfl) (fun W oW => r_ld Try.isAgg23 Hz rfl ((Blk.ca (Blk.only B114 oW (fun h => h.elim (ow_nb r115 B114 (by decide)) ne93))) 1 _ rfl)) Hz rfl rfl ?_
          clear Hz az; intro az Hz
          refine MSP (b := false) (by kernel_rfl) (fun W oW => r_mv Hz rfl) Hz rfl rfl ?_
          clear Hz az; intro az Hz
          refine MSP (b := false) (by kernel_rfl) (fun W oW => r_ia (k := k) (size := 2) Try.underlying23 Try.sizeOf60 Hz rfl rfl rfl hk100 hA104) Hz rfl rfl ?_
          clear Hz az; intro az Hz
          refine MSP (b := true) (by kernel_rfl) (fun W oW => r_ldA Try.isAgg60 Try.sizeOf60 Hz rfl (E105 _ (Only.trans' o112 oW)) rfl) Hz rfl rfl ?_
          clear Hz az; intro az Hz
          obtain ⟨A116, w117, hw, hA, r118, o119⟩ := Row.made (w := w111) KPr (e := 60) ([m101] : List Pr) (by simp only [List.length_cons, List.length_nil]; unfold maxLen; omega)
          refine MD (r_bs (z := .agg #[.int .i64 (0), .int .i64 (0)]) (size := 2) (vs := [(0, .agg #[.int .i64 (m101.x), .int .i64 (m101.y)])]) (cs := List.flatMap KPr.cells [m101]) Try.underlying23 Try.sizeOf60 zeroPr rfl (Fr.evalps Hz rfl) (by kernel_rfl)) Hz rfl rfl ?_ ?_
          · rw [← hw]; exact ⟨fun _ => o119, (Only.trans (Only.refl (orF (ownF (.slice Ao (O.length) co)) (oneF g72)) w111) o119 (fun _ h => h.elim))⟩
          rw [← hw, ← hA]; clear Hz az; intro az Hz
          clear hw hA
          have ok120 : ∀ zq ∈ ([m101] : List Pr), KPr.ok zq := by intro zq hx; simp only [List.mem_cons, List.not_mem_nil, or_false] at hx; rcases hx with rfl <;> first | exact ok103
          have r121 := (ow_k r115 o119)
          have h122 := Row.own KPr r118 ok120
          have h123 := SliceOf.pl h122
          have hb131 : (List.length (O) + List.length ([m101])) * 16 ≤ 140737488355328 := by (try simp only [List.length_append, List.length_cons, List.length_nil]); omega
          have O132 := (Only.trans (Only.trans (Only.trans (Only.refl (fun _ => True) w82) o88 (fun _ _ => .inl trivial)) o112 (fun _ _ => .inl trivial)) o119 (fun _ _ => .inl trivial))
          obtain ⟨A124, c125, w126, hr127, r128, o129, al130⟩ := Row.app (P := Try.prog) (l := O) (l2 := [m101]) KPr elemPr r121 h123 hb131 (by unfold maxLen; omega) (size_only O132)
          refine MD (r_app hr127 Hz rfl rfl) Hz rfl rfl ?_ ?_
          · exact ⟨fun h => absurd h (by decide), (Only.trans (Only.trans (Only.refl (orF (ownF (.slice Ao (O.length) co)) (oneF g72)) w111) o119 (fun _ h => h.elim)) o129 (fun _ h => .inl (.inl h)))⟩
          clear Hz az; intro az Hz
          have ok133 : ∀ zq ∈ (O ++ [m101]), KPr.ok zq := (fun x hx => (List.mem_append.1 hx).elim (okO x) ((Row.oks KPr h123) x))
          have h134 := Row.own KPr r128 ok133
          refine MSP (b := false) (by kernel_rfl) (fun W oW => r_fa (m' := 1) Try.underlying25 rfl Try.sizeOf23 rfl Hz rfl rfl) Hz rfl rfl ?_
          clear Hz az; intro az Hz
          have B135 := (Blk.only (Blk.k B113 o119) o129 (ow_nb r121 (Blk.k B113 o119) (by decide)))
          refine MSS (cs' := [.slice A62 (a.ms.length) c64, .slice A124 (((O ++ [m101])).length) c125]) Try.sizeOf23 Hz rfl rfl rfl rfl rfl rfl ⟨rfl, trivial⟩ B135 rfl rfl fun w136 s137 B138 => ?_
          refine ⟨⟨fun h => absurd h (by decide), (Only.trans (Only.trans (Only.trans (Only.refl (orF (ownF (.slice Ao (O.length) co)) (oneF g72)) w111) o119 (fun _ h => h.elim)) o129 (fun _ h => .inl (.inl h))) s137 (fun _ h => .inl (.inr h)))⟩, ?_⟩
          refine wpMix_nil ?_
          refine hK98 _ _ ?_
          -- ref.go:150
          refine wp_region_lit ?_
          refine L (r_mv Hz rfl) Hz rfl ?_
          clear Hz az; intro az Hz
          have i139 : I64 ((k : Int) + 1) := by unfold I64; omega
          refine L (r_addI (r := ((k : Int) + 1)) Hz rfl rfl rfl i139) Hz rfl ?_
          clear Hz az; intro az Hz
          refine L (r_as Hz rfl) Hz rfl ?_
          clear Hz az; intro az Hz
          have O140 := (Only.trans (Only.trans (Only.refl (fun _ => True) w73) s79 (fun _ _ => .inl trivial)) s83 (fun _ _ => .inl trivial))
          have r141 := (ow_only r128 s137 (fun k hk => ge_F (oneF_lt hl77) (size_only O140) k (ownF_ge r128 k hk)))
          exact ⟨_, (by omega), k + 1, _, A124, c125, rfl, Hz.cut ⟨rfl, rfl, rfl, rfl, rfl, rfl, rfl, trivial⟩, (by omega), (by rw [hO]; exact Lnk.heal_t hm102 hc109), (Only.trans (Only.trans (Only.trans (Only.trans (Only.trans (Only.refl (oneF g72) w82) o88 (fun _ h => .inl h)) o112 (fun _ h => h.elim)) o119 (fun _ h => h.elim)) o129 (fun k h => .inr (Nat.le_trans (Nat.le_refl _) ((ownF_ge rO) k h)))) s137 (fun _ h => .inl h)), B138, r141⟩
        · -- else3
          have p142 := of_decide_eq_true (nt_f (or_f hc109).1)
          have p143 := of_decide_eq_true (nt_f (or_f hc109).2)
          refine wp_skip ?_
          refine hK98 _ _ ?_
          -- ref.go:150
          refine wp_region_lit ?_
          refine L (r_mv Hz rfl) Hz rfl ?_
          clear Hz az; intro az Hz
          have i144 : I64 ((k : Int) + 1) := by unfold I64; omega
          refine L (r_addI (r := ((k : Int) + 1)) Hz rfl rfl rfl i144) Hz rfl ?_
          clear Hz az; intro az Hz
          refine L (r_as Hz rfl) Hz rfl ?_
          clear Hz az; intro az Hz
          exact ⟨_, (by omega), k + 1, _, Ao, co, rfl, Hz.cut ⟨rfl, rfl, rfl, rfl, rfl, rfl, rfl, trivial⟩, (by omega), (by rw [hO]; exact Lnk.heal_f hm102 hc109), (Only.trans (Only.refl (oneF g72) w82) o88 (fun _ h => .inl h)), B90, rO⟩
      · -- else2
        have p145 := of_decide_eq_false hc96
        refine wp_exit ?_
        refine th_exit ?_
        refine th_exit ?_
        refine ib_hit ?_
        refine hK85 _ _ ?_
        refine wp_seq_k fun K146 hK146 => ?_
        -- ref.go:155
        refine wp_region_lit ?_
        refine L (r_ldA Try.isAgg25 Try.sizeOf25 Hz rfl (Blk.ca B90) rfl) Hz rfl ?_
        clear Hz az; intro az Hz
        have O148 : Only NoF w9 w71 := (Only.trans' (Only.trans' (Only.trans' (Only.trans' o21 o23) o25) o47) o70)
        have ne147 : g8 ≠ g72 := (ne_of hl13 (Nat.le_trans (size_only O148) hg76))
        have B149 := (Blk.st (Blk.st (Blk.st (Blk.k (Blk.k (Blk.k (Blk.k (Blk.k (Blk.k B11 o21) o23) o25) o47) o70) o74) s79 ne147) s83 ne147) o88 ne147)
        refine LSt (cs' := [.slice A62 (a.ms.length) c64, .slice Ao (O.length) co]) Try.sizeOf25 Hz rfl rfl rfl rfl rfl ⟨rfl, rfl, trivial⟩ B149 rfl rfl fun w150 s151 B152 => ?_
        refine L (r_as Hz rfl) Hz rfl ?_
        clear Hz az; intro az Hz
        refine hK146 _ _ ?_
        refine wp_ret ?_
        show bodyPost _ _ _ .ret _ _
        refine ret_of (vs := [.agg #[.slice A62 (a.ms.length) c64, .slice Ao (O.length) co], .int .i64 (0)]) Hz Try.results21 ⟨⟨_, rfl, l_ca Try.isAgg25 Try.sizeOf25 (Blk.ca B152) rfl⟩, rfl, trivial⟩ ?_
        obtain rfl : O = a.cs.filter (fun q => q != Lnk.pair x y) := by rw [hO, List.take_of_length_le (by omega)]
        have O153 : Only NoF w9 w46 := (Only.trans' (Only.trans' (Only.trans' o21 o23) o25) o47)
        have r154 := (ow_only (ow_only (ow_only (ow_only (ow_k r66 o74) s79 (fun k hk => lt_F (oneF_ge hg76) (Nat.le_refl _) k (ownF_lt r66 k hk))) s83 (fun k hk => lt_F (oneF_ge hg76) (Nat.le_refl _) k (ownF_lt r66 k hk))) o88 (fun k hk => lt_F (oneF_ge hg76) (Nat.le_refl _) k (ownF_lt r66 k hk))) s151 (fun k hk => ge_F (oneF_lt hl13) (size_only O153) k (ownF_ge (ow_only (ow_only (ow_only (ow_k r66 o74) s79 (fun k hk => lt_F (oneF_ge hg76) (Nat.le_refl _) k (ownF_lt r66 k hk))) s83 (fun k hk => lt_F (oneF_ge hg76) (Nat.le_refl _) k (ownF_lt r66 k hk))) o88 (fun k hk => lt_F (oneF_ge hg76) (Nat.le_refl _) k (ownF_lt r66 k hk))) k hk)))
        have O155 : Only NoF w9 w82 := (o_sg (o_sg (Only.trans' O148 o74) s79 (size_only O148) (oneF_ge hg76)) s83 (size_only O148) (oneF_ge hg76))
        have r156 := (ow_only rO s151 (fun k hk => ge_F (oneF_lt hl13) (size_only O155) k (ownF_ge rO k hk)))
        have O157 : Only NoF w w71 := (Only.trans' O59 o70)
        have O158 : Only NoF w w82 := (o_sg (o_sg (Only.trans' (Only.trans' O59 o70) o74) s79 (size_only O157) (oneF_ge hg76)) s83 (size_only O157) (oneF_ge hg76))
        rw [Lnk.rh3 hc26 hc48]
        have O159 : Only NoF w w150 := (o_sg (o_sg O158 o88 (size_only O157) (oneF_ge hg76)) s151 (size_only o4) (oneF_ge hg12))
        exact ⟨_, _, _, _, rfl, (ow_low r154 (size_only O59)), (ow_low r156 (size_only O158)), k68, okO, O159⟩

theorem rHeal_v {w : World} {v : Value} {a : Air} (h : AirV w v a) (hf : Few_ a) (x y : Int) : Calls Try.prog 21 #[v, .int .i64 x, .int .i64 y] w (AirO w (Lnk.heal a x y)) := by
  obtain ⟨v1, v2, rfl, f1, f2⟩ := h
  obtain ⟨A1, c1, rfl, _⟩ := SliceOf.shape f1
  obtain ⟨A2, c2, rfl, _⟩ := SliceOf.shape f2
  exact rHeal_v_ f1 f2 hf x y
end Go.Proofs.Ytocbfobakmieoaa
