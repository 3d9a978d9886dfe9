/-
  Gossip: honest houses, in plain Lean. No condition.
-/
import Derived.Test.YtdcbjedkddgfkaaDoorGo15
namespace Go.Proofs.YtdcbjedkddgfkaaDoor
set_option linter.unusedVariables false
set_option linter.unusedSimpArgs false
set_option linter.unusedSectionVars false
open Go.RowKit
/-! ### houses that seal and listen -/
theorem refs_ok (h n : Int) : ∀ (l : List RM) (p : RM), (∀ r ∈ l, 0 ≤ r.h ∧ r.h < 400 ∧ 0 ≤ r.n ∧ r.n < 400 ∧ p.h < r.h ∧ (r.h = h → r.n < n)) → (l.Pairwise fun x y => x.h < y.h) → refsOk h n p l = true
 | [], _, _, _ => rfl
 | r :: l, p, hr, hp => by
  obtain ⟨h1, h2⟩ := List.pairwise_cons.1 hp
  obtain ⟨a1, a2, a3, a4, a5, a6⟩ := hr r List.mem_cons_self
  have e : refOk h n p r = true := by
   unfold refOk kn bel refGt
   rw [decide_eq_true a1, decide_eq_true a2, decide_eq_true a3, decide_eq_true a4, decide_eq_true a5]
   by_cases e : r.h = h
   · rw [decide_eq_true e, decide_eq_false (show ¬ n ≤ r.n by have := a6 e; omega)]; rfl
   · rw [decide_eq_false e]; rfl
  unfold refsOk
  rw [e, refs_ok h n l r (fun x hx => ?_) h2]
  · rfl
  · obtain ⟨b1, b2, b3, b4, _, b6⟩ := hr x (List.mem_cons_of_mem _ hx)
    exact ⟨b1, b2, b3, b4, h1 x hx, b6⟩
section
variable {L S M P : List NM} {h d : Int} {x y n : NM}
/-- how many notes of a house there are bounds their numbers -/
theorem seal_cnt (hL : Sealed L) (hx : x ∈ L) (e : x.h = h) : x.n < (((ofN L h).length : Nat) : Int) := by
 obtain ⟨i, hi⟩ := List.getElem?_of_mem hx
 have h1 := (hL.n i x hi).2.2.1
 have h2 := of_take_lt (h := h) hi (List.getElem?_eq_some_iff.1 hi).1 e
 rw [List.take_length, ] at h2
 rw [e] at h1
 omega
theorem of_len_same (hL : Sealed L) (hP : Part L S M) (ho : ∀ x ∈ L, x.h = h → x ∈ S) : (ofN M h).length = (ofN L h).length :=
 Nat.le_antisymm (sub_len ((sorted_nodup hP.o).filter _) fun x hx => of_mem.2 ⟨part_in hP (of_mem.1 hx).1, (of_mem.1 hx).2⟩)
  (sub_len ((seal_nodup hL).filter _) fun x hx => of_mem.2 ⟨(hP.m x).2 (ho x (of_mem.1 hx).1 (of_mem.1 hx).2), (of_mem.1 hx).2⟩)
/-- the needs that a house that knows M states -/
theorem wants_at (hP : Part L S M) {r : RM} (hr : r ∈ wantsN (headsN M)) : ∃ m2 ∈ S, m2.h = r.h ∧ m2.n = r.n := by
 unfold wantsN at hr
 obtain ⟨q, hq, rfl⟩ := List.mem_map.1 hr
 obtain ⟨h1, h2⟩ := (heads_mem (part_up hP) q).1 hq
 have ht := part_taken hP q.h
 have hi : (ofN M q.h).length - 1 < (ofN M q.h).length := by omega
 have h3 : (ofN M q.h)[(ofN M q.h).length - 1]? = some ((ofN M q.h)[(ofN M q.h).length - 1]'hi) := List.getElem?_eq_getElem hi
 generalize (ofN M q.h)[(ofN M q.h).length - 1]'hi = m at h3
 have h4 := of_mem.1 (List.mem_of_getElem? h3)
 have h5 := part_at hP h3
 exact ⟨m, (hP.m m).1 h4.1, h4.2, by show m.n = q.n - 1; omega⟩
theorem wants_asc (hP : Part L S M) : (wantsN (headsN M)).Pairwise fun x y => x.h < y.h :=
 List.pairwise_map.2 ((heads_asc (part_up hP)).imp fun {a b} hab => hab)
theorem asc8 : ∀ (l : List Int) (k : Nat), (l.Pairwise fun x y => x < y) → (∀ x ∈ l, (8 : Int) - k ≤ x ∧ x < 8) → l.length ≤ k
 | [], _, _, _ => Nat.zero_le _
 | a :: l, k, hp, hb => by
  obtain ⟨h1, h2⟩ := List.pairwise_cons.1 hp
  have := hb a List.mem_cons_self
  cases k with
  | zero => exfalso; omega
  | succ k =>
   have := asc8 l k h2 fun x hx => by
    have := hb x (List.mem_cons_of_mem _ hx)
    have := h1 x hx
    omega
   simp only [List.length_cons]; omega
theorem wants_8 (hP : Part L S M) : (wantsN (headsN M)).length ≤ 8 := by
 have := asc8 ((wantsN (headsN M)).map (·.h)) 8 (List.pairwise_map.2 (wants_asc hP)) fun x hx => by
  obtain ⟨r, hr, rfl⟩ := List.mem_map.1 hx
  obtain ⟨m2, h1, h2, _⟩ := wants_at hP hr
  obtain ⟨i, hi⟩ := List.getElem?_of_mem (hP.c.s m2 h1)
  have := hP.l.n i m2 hi
  omega
 rwa [List.length_map] at this
/-- the note that a house seals -/
def sealN (h d : Int) (M : List NM) : NM := ⟨h, (((pastOfN M h).length : Nat) : Int), d, none, wantsN (headsN M), 0, [116]⟩
theorem past_is (hP : Part L S M) : pastOfN M h = ofN M h := by rw [past_of (part_up hP)]; exact part_past hP h
theorem next_len (hP : Part L S M) : (ofN M h).length ≤ L.length := part_len hP h
theorem next_right (hP : Part L S M) (hlen : L.length ≤ 30) (h0 : 0 ≤ h) (h8 : h < 8) (d0 : 0 ≤ d) (dl : d ≤ 1000) : right (sealN h d M) = true := by
 have e1 : (pastOfN M h).length ≤ 30 := by rw [past_is hP]; exact Nat.le_trans (next_len hP) hlen
 have e2 := wants_8 hP
 have hb : headBad (sealN h d M) = false := by
  unfold headBad kn bel sealN
  simp only [decide_eq_true h0, decide_eq_true d0, decide_eq_true (show h < 400 by omega), decide_eq_true (show (0 : Int) ≤ (((pastOfN M h).length : Nat) : Int) by omega), decide_eq_true (show (((pastOfN M h).length : Nat) : Int) < 400 by omega), decide_eq_true (show d < 100001 by omega), decide_eq_false (show ¬ (40 : Int) < (((wantsN (headsN M)).length : Nat) : Int) by omega)]
  rfl
 have hr : refsOk h (((pastOfN M h).length : Nat) : Int) ⟨-1, 0⟩ (wantsN (headsN M)) = true := refs_ok _ _ _ _ (fun r hr => by
  obtain ⟨m2, h1, h2, h3⟩ := wants_at hP hr
  obtain ⟨i, hi⟩ := List.getElem?_of_mem (hP.c.s m2 h1)
  have g1 := hP.l.n i m2 hi
  have g2 := right_bnd (hP.l.g m2 (hP.c.s m2 h1)).1
  refine ⟨by omega, by omega, by omega, by omega, by show (-1 : Int) < r.h; omega, fun e => ?_⟩
  have g3 : m2 ∈ ofN M h := of_mem.2 ⟨(hP.m m2).2 h1, by omega⟩
  obtain ⟨k, hk⟩ := List.getElem?_of_mem g3
  have g4 := part_at hP hk
  have g5 := (List.getElem?_eq_some_iff.1 hk).1
  rw [past_is hP]; omega) (wants_asc hP)
 show (!headBad (sealN h d M) && refsOk h (((pastOfN M h).length : Nat) : Int) ⟨-1, 0⟩ (wantsN (headsN M))) = true
 rw [hb, hr]; rfl
/-- what the house knew of its own and the new note: a chain -/
theorem next_check (hP : Part L S M) (hlen : L.length ≤ 30) (h0 : 0 ≤ h) (h8 : h < 8) (d0 : 0 ≤ d) (dl : d ≤ 1000) (hd : ∀ x ∈ L, x.h = h → x.d ≤ d) : check (pastOfN M h ++ [sealN h d M]) = 0 := by
 have e1 : (pastOfN M h).length ≤ 30 := by rw [past_is hP]; exact Nat.le_trans (next_len hP) hlen
 refine check_ok (h0 := h) (by simp only [List.length_append, List.length_cons, List.length_nil]; omega) fun k m hk => ?_
 rcases Nat.lt_or_ge k (pastOfN M h).length with h1 | h1
 · rw [List.getElem?_append_left h1, past_is hP] at hk
   obtain ⟨g1, g2, g3, g4⟩ := part_chain hP h k m hk
   refine ⟨g1, g2, g3, fun p hk0 hp => g4 p hk0 ?_⟩
   rw [List.getElem?_append_left (by omega), past_is hP] at hp; exact hp
 · rw [List.getElem?_append_right h1] at hk
   have hkk : k = (pastOfN M h).length := by
    have := (List.getElem?_eq_some_iff.1 hk).1
    simp only [List.length_cons, List.length_nil] at this; omega
   subst hkk
   rw [Nat.sub_self] at hk
   injection hk with hk
   subst hk
   refine ⟨next_right hP hlen h0 h8 d0 dl, rfl, rfl, fun p hk0 hp => ?_⟩
   rw [List.getElem?_append_left (by omega), past_is hP] at hp
   have hm := of_mem.1 (List.mem_of_getElem? hp)
   exact hd p (part_in hP hm.1) hm.2
theorem sealed_add (hP : Part L S M) (hlen : L.length ≤ 30) (h0 : 0 ≤ h) (h8 : h < 8) (d0 : 0 ≤ d) (dl : d ≤ 1000) (hd : ∀ x ∈ L, x.h = h → x.d ≤ d) (ho : ∀ x ∈ L, x.h = h → x ∈ S) : Sealed (L ++ [sealN h d M]) := by
 have hL := hP.l
 refine ⟨fun x hx => ?_, fun i m hi => ?_⟩
 · rcases List.mem_append.1 hx with hx | hx
   · exact hL.g x hx
   · rw [List.mem_singleton.1 hx]; exact ⟨next_right hP hlen h0 h8 d0 dl, rfl⟩
 · rcases Nat.lt_or_ge i L.length with h1 | h1
   · rw [List.getElem?_append_left h1] at hi
     rw [List.take_append_of_le_length (by omega)]
     exact hL.n i m hi
   · rw [List.getElem?_append_right h1] at hi
     have hkk : i = L.length := by
      have := (List.getElem?_eq_some_iff.1 hi).1
      simp only [List.length_cons, List.length_nil] at this; omega
     subst hkk
     rw [Nat.sub_self] at hi
     injection hi with hi
     subst hi
     rw [List.take_append_of_le_length (Nat.le_refl _), List.take_length]
     refine ⟨h0, h8, ?_, fun p hp => hd p (of_mem.1 hp).1 (of_mem.1 hp).2, fun r hr => ?_⟩
     · show (((pastOfN M h).length : Nat) : Int) = _
       rw [past_is hP, of_len_same hL hP ho]; rfl
     · obtain ⟨m2, g1, g2, g3⟩ := wants_at hP hr
       exact ⟨m2, hP.c.s m2 g1, g2, g3⟩
/-- a part that has all it asks for still has it when a new note comes -/
theorem closed_old (hL : Sealed L) {T : List NM} (hT : ClosedL L T) (hn : n.n = (((ofN L n.h).length : Nat) : Int)) : ClosedL (L ++ [n]) T := by
 refine ⟨fun x hx => List.mem_append_left _ (hT.s x hx), fun x hx y hy ha => ?_⟩
 rcases List.mem_append.1 hy with hy | hy
 · exact hT.c x hx y hy ha
 · exfalso
   rw [List.mem_singleton.1 hy] at ha
   have hxL := hT.s x hx
   rcases ha with ⟨e, h1⟩ | ⟨r, hr, e, h1⟩
   · have := seal_cnt hL hxL e.symm; omega
   · obtain ⟨i, hi⟩ := List.getElem?_of_mem hxL
     obtain ⟨m2, g1, g2, g3⟩ := (hL.n i x hi).2.2.2.2 r hr
     have := seal_cnt hL (List.mem_of_mem_take g1) (g2.trans e); omega
/-- what the house knows after it has sealed -/
theorem closed_new (hP : Part L S M) (hn : n = sealN h d M) (hN : ClosedL (L ++ [n]) S) (ho : ∀ x ∈ L, x.h = h → x ∈ S) {T : List NM} (hT : ∀ x, x ∈ T ↔ x ∈ S ∨ x = n) : ClosedL (L ++ [n]) T := by
 refine ⟨fun x hx => ?_, fun x hx y hy ha => ?_⟩
 · rcases (hT x).1 hx with h1 | h1
   · exact hN.s x h1
   · rw [h1]; exact List.mem_append_right _ List.mem_cons_self
 · rcases (hT x).1 hx with h1 | h1
   · exact (hT y).2 (.inl (hN.c x h1 y hy ha))
   · subst h1
     rcases List.mem_append.1 hy with hy | hy
     · refine (hT y).2 (.inl ?_)
       rcases ha with ⟨e, _⟩ | ⟨r, hr, e, h2⟩
       · exact ho y hy (by rw [e, hn]; rfl)
       · rw [hn] at hr
         obtain ⟨m2, g1, g2, g3⟩ := wants_at hP hr
         rcases Int.lt_or_le y.n m2.n with h3 | h3
         · exact hP.c.c m2 g1 y hy (.inl ⟨by omega, h3⟩)
         · rw [seal_uni hP.l hy (hP.c.s m2 g1) (by omega) (by omega)]; exact g1
     · exact (hT y).2 (.inr (List.mem_singleton.1 hy))
theorem closed_union {T U : List NM} (hS : ClosedL L S) (hT : ClosedL L T) (hU : ∀ x, x ∈ U ↔ x ∈ S ∨ x ∈ T) : ClosedL L U := by
 refine ⟨fun x hx => ?_, fun x hx y hy ha => ?_⟩
 · rcases (hU x).1 hx with h1 | h1
   · exact hS.s x h1
   · exact hT.s x h1
 · rcases (hU x).1 hx with h1 | h1
   · exact (hU y).2 (.inl (hS.c x h1 y hy ha))
   · exact (hU y).2 (.inr (hT.c x h1 y hy ha))
theorem closed_nil : ClosedL L [] := ⟨fun _ h => (by cases h), fun _ h => (by cases h)⟩
theorem join_good_mem {T : List NM} (hT : GoodN T) : x ∈ joinN T ↔ x ∈ T := by rw [mem_join, InN_good hT]
end
/-! ### the state of the eight houses -/
/-- KL: what each knows; D: the days; L: all that has been sealed; i: how many steps there were -/
structure Hon (KL : List (List NM)) (D : List Int) (L : List NM) (i : Nat) : Prop where
 l : Sealed L
 k : KL.length = 8
 d : D.length = 8
 le : L.length ≤ i
 cl : ∀ (q : Nat) (S : List NM), KL[q]? = some S → ClosedL L S
 ow : ∀ (q : Nat) (S : List NM), KL[q]? = some S → ∀ x ∈ L, x.h = (q : Int) → x ∈ S
 dy : ∀ (q : Nat) (e : Int), D[q]? = some e → 0 ≤ e ∧ e ≤ 8 * (i : Int) ∧ ∀ x ∈ L, x.h = (q : Int) → x.d ≤ e
section
variable {KL : List (List NM)} {D : List Int} {L S T : List NM} {i q : Nat} {e e2 : Int}
theorem hon_start : Hon (List.replicate 8 []) (List.replicate 8 0) [] 0 := by
 refine ⟨⟨fun _ h => (by cases h), fun i m h => (by cases h)⟩, rfl, rfl, Nat.le_refl _, fun q S h => ?_, fun q S h x hx => (by cases hx), fun q e h => ?_⟩
 · have := List.mem_of_getElem? h
   rw [List.eq_of_mem_replicate this]; exact closed_nil
 · have := List.mem_of_getElem? h
   rw [List.eq_of_mem_replicate this]
   exact ⟨Int.le_refl _, by omega, fun x hx => (by cases hx)⟩
theorem hon_up (H : Hon KL D L i) : Hon KL D L (i + 1) := ⟨H.l, H.k, H.d, by have := H.le; omega, H.cl, H.ow, fun q e h => by have := H.dy q e h; exact ⟨this.1, by omega, this.2.2⟩⟩
theorem hon_good (H : Hon KL D L i) (h : KL[q]? = some S) : GoodN S := fun x hx => H.l.g x ((H.cl q S h).s x hx)
/-- a house learns what another knows -/
theorem hon_learn (H : Hon KL D L i) {f : Nat} (hq : KL[q]? = some S) (hf : KL[f]? = some T) : Hon (KL.set q (joinN (S ++ T))) D L i := by
 have hG : GoodN (S ++ T) := fun x hx => by
  rcases List.mem_append.1 hx with h | h
  · exact hon_good H hq x h
  · exact hon_good H hf x h
 have hM : ∀ x, x ∈ joinN (S ++ T) ↔ x ∈ S ∨ x ∈ T := fun x => by rw [join_good_mem hG, List.mem_append]
 refine ⟨H.l, by rw [List.length_set]; exact H.k, H.d, H.le, fun p U hp => ?_, fun p U hp x hx e => ?_, H.dy⟩
 · rw [List.getElem?_set] at hp
   split at hp
   · split at hp
     · injection hp with hp; subst hp; exact closed_union (H.cl q S hq) (H.cl f T hf) hM
     · cases hp
   · exact H.cl p U hp
 · rw [List.getElem?_set] at hp
   split at hp
   · rename_i e1; subst e1
     split at hp
     · injection hp with hp; subst hp; exact (hM x).2 (.inl (H.ow q S hq x hx e))
     · cases hp
   · exact H.ow p U hp x hx e
theorem hon_part (H : Hon KL D L i) (hi : i ≤ 30) (hq : KL[q]? = some S) : Part L S (joinN S) := part_join H.l (H.cl q S hq) (by have := H.le; omega)
theorem hon_bnd (H : Hon KL D L i) (hq : D[q]? = some e) (hi : i ≤ 30) : 0 ≤ e ∧ e ≤ 240 ∧ q < 8 := by
 have h1 := H.dy q e hq
 have h2 := (List.getElem?_eq_some_iff.1 hq).1
 have h3 := H.d
 exact ⟨h1.1, by omega, by omega⟩
/-- and seals -/
theorem hon_seal (H : Hon KL D L i) (hi : i < 30) (hq : KL[q]? = some S) (hd : D[q]? = some e) (h8 : e ≤ e2 ∧ e2 ≤ e + 8) {n : NM} (hn : n = sealN (q : Int) e2 (joinN S)) :
 check (pastOfN (joinN S) q ++ [n]) = 0 ∧ right n = true ∧ ns n = n ∧ Hon (KL.set q (joinN (S ++ [n]))) (D.set q e2) (L ++ [n]) (i + 1) := by
 have hP := hon_part H (by omega) hq
 have hb := hon_bnd H hd (by omega)
 have hle := H.le
 have hdy := H.dy q e hd
 have ho := H.ow q S hq
 have hr := next_right (h := (q : Int)) (d := e2) hP (by omega) (by omega) (by omega) (by omega) (by omega)
 have hc := next_check (h := (q : Int)) (d := e2) hP (by omega) (by omega) (by omega) (by omega) (by omega) (fun x hx ex => by have := hdy.2.2 x hx ex; omega)
 have hS := sealed_add (h := (q : Int)) (d := e2) hP (by omega) (by omega) (by omega) (by omega) (by omega) (fun x hx ex => by have := hdy.2.2 x hx ex; omega) ho
 rw [← hn] at hr hc hS
 have hnn : n.n = (((ofN L n.h).length : Nat) : Int) := by
  have hnh : n.h = (q : Int) := by rw [hn]; rfl
  rw [hnh, ← of_len_same H.l hP ho, ← past_is hP, hn]; rfl
 have hG : GoodN (S ++ [n]) := fun x hx => by
  rcases List.mem_append.1 hx with h | h
  · exact hon_good H hq x h
  · rw [List.mem_singleton.1 h]; exact ⟨hr, by rw [hn]; rfl⟩
 have hM : ∀ x, x ∈ joinN (S ++ [n]) ↔ x ∈ S ∨ x = n := fun x => by rw [join_good_mem hG, List.mem_append, List.mem_singleton]
 refine ⟨hc, hr, by rw [hn]; rfl, hS, by rw [List.length_set]; exact H.k, by rw [List.length_set]; exact H.d, by simp only [List.length_append, List.length_cons, List.length_nil]; omega, fun p U hp => ?_, fun p U hp x hx ex => ?_, fun p f hp => ?_⟩
 · rw [List.getElem?_set] at hp
   split at hp
   · split at hp
     · injection hp with hp; subst hp
       exact closed_new hP hn (closed_old H.l (H.cl q S hq) hnn) ho hM
     · cases hp
   · exact closed_old H.l (H.cl p U hp) hnn
 · rw [List.getElem?_set] at hp
   split at hp
   · rename_i e1; subst e1
     split at hp
     · injection hp with hp; subst hp
       rcases List.mem_append.1 hx with h1 | h1
       · exact (hM x).2 (.inl (ho x h1 ex))
       · exact (hM x).2 (.inr (List.mem_singleton.1 h1))
     · cases hp
   · rename_i e1
     rcases List.mem_append.1 hx with h1 | h1
     · exact H.ow p U hp x h1 ex
     · rw [List.mem_singleton.1 h1, hn] at ex
       have : (q : Int) = (p : Int) := ex
       exact absurd (by omega) e1
 · rw [List.getElem?_set] at hp
   split at hp
   · rename_i e1; subst e1
     split at hp
     · injection hp with hp; subst hp
       refine ⟨by omega, by omega, fun x hx ex => ?_⟩
       rcases List.mem_append.1 hx with h1 | h1
       · have := hdy.2.2 x h1 ex; omega
       · rw [List.mem_singleton.1 h1, hn]; exact Int.le_refl _
     · cases hp
   · rename_i e1
     have g := H.dy p f hp
     refine ⟨g.1, by omega, fun x hx ex => ?_⟩
     rcases List.mem_append.1 hx with h1 | h1
     · exact g.2.2 x h1 ex
     · rw [List.mem_singleton.1 h1, hn] at ex
       have : (q : Int) = (p : Int) := ex
       exact absurd (by omega) e1
/-- the end: all that they sealed, in any order -/
theorem hon_all (H : Hon KL D L i) (hi : i ≤ 30) {l a : List NM} (ha : a.map ns = L) (hm : ∀ x, x ∈ l ↔ x ∈ a) : Part L L (joinN l) := by
 rw [join_mem hm, ← join_map, ha]
 exact part_join H.l ⟨fun x hx => hx, fun x hx y hy _ => hy⟩ (by have := H.le; omega)
theorem all_len (hP : Part L L T) : (orderN T).length = L.length := by
 rw [part_olen hP]
 exact Nat.le_antisymm (sub_len (sorted_nodup hP.o) fun x hx => (hP.m x).1 hx) (sub_len (seal_nodup hP.l) fun x hx => (hP.m x).2 hx)
theorem all_has (hP : Part L L T) {a O : List NM} {m : NM} (ha : a.map ns = L) (hO : O.map ns = orderN T) (hx : O[q]? = some m) : hasN a m = true := by
 unfold hasN
 rw [ha]
 have h1 : ns m ∈ orderN T := by rw [← hO]; exact List.mem_map_of_mem (List.mem_of_getElem? hx)
 exact decide_eq_true ((hP.m _).1 (order_mem (part_up hP) h1))
theorem all_placed (hP : Part L L T) {O : List NM} {m : NM} (hO : O.map ns = orderN T) (hx : O[q]? = some m) : placedN (O.take q) m [] [] = true := by
 rw [placed_ns (A := O.take q) (B := (orderN T).take q) (by rw [List.map_take, hO, List.map_take, ← hO, List.map_map]; rfl)]
 exact part_placed hP (by rw [← hO, List.getElem?_map, hx]; rfl)
end
end Go.Proofs.YtdcbjedkddgfkaaDoor
