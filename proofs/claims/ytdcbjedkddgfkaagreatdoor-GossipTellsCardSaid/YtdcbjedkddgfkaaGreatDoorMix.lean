/-
  A region that draws its order: reads and other operations in one list, a read at any place where it may come up. No condition: a law over any program.
-/
import Derived.Test.YtdcbjedkddgfkaaGreatDoorRegion
namespace Go.Proofs.YtdcbjedkddgfkaaGreatDoor
set_option linter.unusedVariables false
set_option linter.unusedSimpArgs false
set_option linter.unusedSectionVars false
section
variable {P : Program} {ops : Array Oper} {Q : Exit → Act → World → Prop} {S' : Nat → World → Prop}
/-- the check: (true, i): a read, apart from all that is outstanding; (false, t): the only operation that may come up -/
def mixB (ops : Array Oper) (T : List Nat) : Nat → Array Bool → List (Bool × Nat) → Bool
 | _, listed, [] => (Region.ready .any ops listed).isEmpty
 | k, listed, (true, i) :: r => (Region.ready .any ops listed).contains i && Region.free .any ops listed i && !T.contains i && mixB ops T k (listed.setIfInBounds i true) r
 | k, listed, (false, t) :: r => Region.ready .any ops listed == [t] && posT T (listed.setIfInBounds t true) == k + 1 && mixB ops T (k + 1) (listed.setIfInBounds t true) r
def wpMix (P : Program) (ops : Array Oper) (Q : Exit → Act → World → Prop) (S' : Nat → World → Prop) (T : List Nat) : Nat → List (Bool × Nat) → Act → World → Prop
 | _, [], a, w => Q .normal a w
 | k, (true, i) :: r, a, w => ∃ o, ops[i]? = some o ∧ ∃ v, YieldsIf P ops (fun w => ∃ k, k ≤ kmax ops T i ∧ S' k w) o v a ∧ wpMix P ops Q S' T k r (a.put o.dst v) w
 | k, (false, t) :: r, a, w => wpOp P ops Q t (fun a' w' => S' (k + 1) w' ∧ wpMix P ops Q S' T (k + 1) r a' w') a w
theorem wpAnyG_mix {T : List Nat} (hs : Region.noSelect ops = true) (hQ : ∀ c (a : Act) (d : Nat) v w, Q (.panic c) (a.put (some d) v) w → Q (.panic c) a w) :
 ∀ (l : List (Bool × Nat)) (k : Nat) (listed : Array Bool) (a : Act) (w : World), mixB ops T k listed l = true → Closed ops listed → S' (posT T listed) w → wpMix P ops Q S' T k l a w →
  wpAnyG P ops Q (fun L w => S' (posT T L) w) l.length listed a w
 | [], _, listed, _, _, hB, _, _, h => ⟨by simpa [mixB] using hB, h⟩
 | (true, i) :: r, k, listed, a, w, hB, hc, hS, h => by
  simp only [mixB, Bool.and_eq_true, Bool.not_eq_true'] at hB
  obtain ⟨⟨⟨h1, h2⟩, h3⟩, h4⟩ := hB
  obtain ⟨o, ho, v, hy, hR⟩ := h
  have hr : i ∈ Region.ready .any ops listed := by simpa using h1
  have hpos : ∀ L, posT T (L.setIfInBounds i true) = posT T L := posT_set h3
  have ih := wpAnyG_mix hs hQ r k (listed.setIfInBounds i true) (a.put o.dst v) w h4 (closed_step hc hr) (by rw [hpos]; exact hS) hR
  refine wpAnyG_first (S := fun L w => S' (posT T L) w) ho (Region.noSelect_spec hs) (fun c a w hp => by cases hd : o.dst with | none => rw [hd] at hp; exact hp | some d => rw [hd] at hp; exact hQ c a d v w hp) (fun L w hL => by rw [hpos] at hL; exact hL) _ listed a w (Region.free_spec ho h2) hc hr ?_ hS (by rw [hpos]; exact hS) ih
  refine hy.imp (fun hh => ⟨hh.1, fun w' hw' => hh.2 w' ?_⟩) id
  obtain ⟨L, hcL, hrL, hSL⟩ := hw'
  exact ⟨_, ready_pos hcL hrL, hSL⟩
 | (false, t) :: r, k, listed, a, w, hB, hc, hS, h => by
  simp only [mixB, Bool.and_eq_true, beq_iff_eq] at hB
  obtain ⟨⟨h1, h2⟩, h3⟩ := hB
  refine ⟨fun h0 => (by rw [h0] at h1; cases h1), fun i hi => ?_⟩
  have hi0 := hi
  rw [h1] at hi
  simp at hi
  subst hi
  refine wpOp_mono (fun a' w' h' => ⟨by show S' (posT T _) w'; rw [h2]; exact h'.1, wpAnyG_mix hs hQ r (k + 1) _ a' w' h3 (closed_step hc hi0) (by rw [h2]; exact h'.1) h'.2⟩) h
/-- **THE LAW** -/
theorem wp_region_mix {id : Nat} {l : List Oper} {a : Act} {w : World} (T : List Nat) (L : List (Bool × Nat)) (S' : Nat → World → Prop) (hm : P.follows .mixedOrders = true)
 (hB : (Region.noSelect l.toArray && mixB l.toArray T 0 (Array.replicate l.toArray.size false) L && (L.length == l.toArray.size) && (posT T (Array.replicate l.toArray.size false) == 0)) = true)
 (hQ : ∀ c (a : Act) (d : Nat) v w, Q (.panic c) (a.put (some d) v) w → Q (.panic c) a w) (hS : S' 0 w.drew)
 (h : wpMix P l.toArray Q S' T 0 L a w.drew) : (Code.region id l.toArray true).wp P Q a w := by
 simp only [Bool.and_eq_true, beq_iff_eq] at hB
 obtain ⟨⟨⟨h1, h2⟩, h4⟩, h5⟩ := hB
 refine wp_region_any hm (wpAny_of_G (S := fun L w => S' (posT T L) w) _ _ _ _ ?_)
 have hst : S' (posT T (Array.replicate l.toArray.size false)) w.drew := by rw [h5]; exact hS
 have key := wpAnyG_mix (P := P) (ops := l.toArray) (Q := Q) (S' := S') (T := T) h1 hQ L 0 (Array.replicate l.toArray.size false) a w.drew h2 closed_start hst h
 rwa [h4] at key
/-- a region that only reads -/
theorem wp_region_quiet {id : Nat} {l : List Oper} {a : Act} {w : World} (L : List (Bool × Nat)) (hm : P.follows .mixedOrders = true)
 (hB : (Region.noSelect l.toArray && mixB l.toArray [] 0 (Array.replicate l.toArray.size false) L && (L.length == l.toArray.size) && (posT [] (Array.replicate l.toArray.size false) == 0)) = true)
 (hQ : ∀ c (a : Act) (d : Nat) v w, Q (.panic c) (a.put (some d) v) w → Q (.panic c) a w)
 (h : wpMix P l.toArray Q (fun _ W => W = w.drew) [] 0 L a w.drew) : (Code.region id l.toArray true).wp P Q a w :=
 wp_region_mix [] L (fun _ W => W = w.drew) hm hB hQ rfl h
theorem wpMix_read {T : List Nat} {k i : Nat} {r : List (Bool × Nat)} {a : Act} {w : World} {o : Oper} (v : Value) (ho : ops[i]? = some o) (hg : o.guard = none)
 (hy : ∀ w' k, k ≤ kmax ops T i → S' k w' → (execOp a.eval o).run P w' = .ok (.value v) w') (h : wpMix P ops Q S' T k r (a.put o.dst v) w) : wpMix P ops Q S' T k ((true, i) :: r) a w :=
 ⟨o, ho, v, .inl ⟨by simp [Region.wanted, hg], fun w' ⟨k, hk, hS⟩ => hy w' k hk hS⟩, h⟩
theorem wpMix_do {T : List Nat} {k t : Nat} {r : List (Bool × Nat)} {a : Act} {w : World} {o : Oper} (ho : ops[t]? = some o) (hg : o.guard = none)
 (h : o.wp P a w (fun a' w' => S' (k + 1) w' ∧ wpMix P ops Q S' T (k + 1) r a' w') Q) : wpMix P ops Q S' T k ((false, t) :: r) a w := by
 simp only [wpMix, wpOp, ho]
 rw [if_pos (by simp [Region.wanted, hg])]
 exact .inl h
theorem wpMix_want {T : List Nat} {k i : Nat} {r : List (Bool × Nat)} {a : Act} {w : World} {o : Oper} (v : Value) (ho : ops[i]? = some o) (hg : Region.wanted o (yielded ops a.tmps) = true)
 (hy : ∀ w' k, k ≤ kmax ops T i → S' k w' → (execOp a.eval o).run P w' = .ok (.value v) w') (h : wpMix P ops Q S' T k r (a.put o.dst v) w) : wpMix P ops Q S' T k ((true, i) :: r) a w :=
 ⟨o, ho, v, .inl ⟨hg, fun w' ⟨k, hk, hS⟩ => hy w' k hk hS⟩, h⟩
theorem wpMix_drop {T : List Nat} {k i : Nat} {r : List (Bool × Nat)} {a : Act} {w : World} {o : Oper} (ho : ops[i]? = some o) (hg : Region.wanted o (yielded ops a.tmps) = false)
 (h : wpMix P ops Q S' T k r (a.put o.dst undef) w) : wpMix P ops Q S' T k ((true, i) :: r) a w :=
 ⟨o, ho, undef, .inr ⟨hg, rfl⟩, h⟩
theorem wpMix_nil {T : List Nat} {k : Nat} {a : Act} {w : World} (h : Q .normal a w) : wpMix P ops Q S' T k [] a w := h
end
end Go.Proofs.YtdcbjedkddgfkaaGreatDoor
