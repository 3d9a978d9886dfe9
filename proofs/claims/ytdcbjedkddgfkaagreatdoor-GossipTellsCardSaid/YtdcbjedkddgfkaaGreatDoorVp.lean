/-
  A region that draws its order, where two operations that make memory may come up in either order: a plan with forks. No condition: a law over any program.
-/
import Derived.Test.YtdcbjedkddgfkaaGreatDoorVm
namespace Go.Proofs.YtdcbjedkddgfkaaGreatDoor
set_option linter.unusedVariables false
set_option linter.unusedSimpArgs false
set_option linter.unusedSectionVars false
open Go.RowKit
inductive Plan where
 | nil
 | rd (i : Nat) (r : Plan)
 | ex (t : Nat) (r : Plan)
 | fork (t : Nat) (r : Plan) (u : Nat) (q : Plan)
def Plan.len : Plan → Nat
 | .nil => 0
 | .rd _ r => r.len + 1
 | .ex _ r => r.len + 1
 | .fork _ r _ _ => r.len + 1
/-- so many of T may come up before i -/
def kcnt (ops : Array Oper) (T : List Nat) (i : Nat) : Nat := (T.filter fun t => !edgeTo ops t i).length
/-- so many of T have come up -/
def cntT (T : List Nat) (listed : Array Bool) : Nat := (T.filter fun t => listed.getD t false).length
section
variable {P : Program} {ops : Array Oper} {Q : Exit → Act → World → Prop} {S' : Nat → World → Prop}
def planB (ops : Array Oper) (T : List Nat) : Nat → Array Bool → Plan → Bool
 | _, listed, .nil => (Region.ready .any ops listed).isEmpty
 | k, listed, .rd i r => (Region.ready .any ops listed).contains i && Region.free .any ops listed i && !T.contains i && planB ops T k (listed.setIfInBounds i true) r
 | k, listed, .ex t r => Region.ready .any ops listed == [t] && cntT T (listed.setIfInBounds t true) == k + 1 && planB ops T (k + 1) (listed.setIfInBounds t true) r
 | k, listed, .fork t r u q => Region.ready .any ops listed == [t, u] && cntT T (listed.setIfInBounds t true) == k + 1 && cntT T (listed.setIfInBounds u true) == k + 1 && r.len == q.len &&
  planB ops T (k + 1) (listed.setIfInBounds t true) r && planB ops T (k + 1) (listed.setIfInBounds u true) q
def wpPl (P : Program) (ops : Array Oper) (Q : Exit → Act → World → Prop) (S' : Nat → World → Prop) (T : List Nat) : Nat → Plan → Act → World → Prop
 | _, .nil, a, w => Q .normal a w
 | k, .rd i r, a, w => ∃ o, ops[i]? = some o ∧ ∃ v, YieldsIf P ops (fun w => ∃ k, k ≤ kcnt ops T i ∧ S' k w) o v a ∧ wpPl P ops Q S' T k r (a.put o.dst v) w
 | k, .ex t r, a, w => wpOp P ops Q t (fun a' w' => S' (k + 1) w' ∧ wpPl P ops Q S' T (k + 1) r a' w') a w
 | k, .fork t r u q, a, w => wpOp P ops Q t (fun a' w' => S' (k + 1) w' ∧ wpPl P ops Q S' T (k + 1) r a' w') a w ∧ wpOp P ops Q u (fun a' w' => S' (k + 1) w' ∧ wpPl P ops Q S' T (k + 1) q a' w') a w
theorem cntT_set {T : List Nat} {i : Nat} (hi : T.contains i = false) (listed : Array Bool) : cntT T (listed.setIfInBounds i true) = cntT T listed := by
 unfold cntT
 congr 1
 refine List.filter_congr fun t ht => ?_
 have hne : i ≠ t := by rintro rfl; simp at hi; exact hi ht
 exact getD_set_ne false hne
theorem ready_cnt {T : List Nat} {i : Nat} {L : Array Bool} (hc : Closed ops L) (hr : i ∈ Region.ready .any ops L) : cntT T L ≤ kcnt ops T i := by
 unfold cntT kcnt
 have : ∀ t, L.getD t false = true → (!edgeTo ops t i) = true := fun t ht => by
  rw [Bool.not_eq_true']
  cases he : edgeTo ops t i with
  | false => rfl
  | true =>
   exfalso
   unfold edgeTo at he
   cases ho : ops[t]? with
   | none => rw [ho] at he; cases he
   | some o =>
    rw [ho] at he
    simp only [List.any_eq_true, Array.any_eq_true', Bool.and_eq_true, beq_iff_eq] at he
    obtain ⟨e, he1, he2, he3⟩ := he
    have h1 := hc t o ho ht e he1 he2
    have h0 := (mem_ready.1 hr).1
    rw [he3] at h1
    rcases Nat.lt_or_ge i L.size with h' | h'
    · simp [h'] at h0 h1; rw [h0] at h1; cases h1
    · simp [Array.getElem?_eq_none h'] at h1
 induction T with
 | nil => simp
 | cons t T ih =>
  simp only [List.filter_cons]
  by_cases h : L.getD t false = true
  · rw [if_pos h, if_pos (this t h)]; simpa using ih
  · rw [if_neg h]
    split
    · exact Nat.le_succ_of_le ih
    · exact ih
theorem wpAnyG_plan {T : List Nat} (hs : Region.noSelect ops = true) (hQ : ∀ c (a : Act) (d : Nat) v w, Q (.panic c) (a.put (some d) v) w → Q (.panic c) a w) :
 ∀ (l : Plan) (k : Nat) (listed : Array Bool) (a : Act) (w : World), planB ops T k listed l = true → Closed ops listed → S' (cntT T listed) w → wpPl P ops Q S' T k l a w →
  wpAnyG P ops Q (fun L w => S' (cntT T L) w) l.len listed a w
 | .nil, _, listed, _, _, hB, _, _, h => ⟨by simpa [planB] using hB, h⟩
 | .rd i r, k, listed, a, w, hB, hc, hS, h => by
  simp only [planB, Bool.and_eq_true, Bool.not_eq_true'] at hB
  obtain ⟨⟨⟨h1, h2⟩, h3⟩, h4⟩ := hB
  obtain ⟨o, ho, v, hy, hR⟩ := h
  have hr : i ∈ Region.ready .any ops listed := by simpa using h1
  have hpos : ∀ L, cntT T (L.setIfInBounds i true) = cntT T L := cntT_set h3
  have ih := wpAnyG_plan hs hQ r k (listed.setIfInBounds i true) (a.put o.dst v) w h4 (closed_step hc hr) (by rw [hpos]; exact hS) hR
  refine wpAnyG_first (S := fun L w => S' (cntT T L) w) ho (Region.noSelect_spec hs) (fun c a w hp => by cases hd : o.dst with | none => rw [hd] at hp; exact hp | some d => rw [hd] at hp; exact hQ c a d v w hp) (fun L w hL => by rw [hpos] at hL; exact hL) _ listed a w (Region.free_spec ho h2) hc hr ?_ hS (by rw [hpos]; exact hS) ih
  refine hy.imp (fun hh => ⟨hh.1, fun w' hw' => hh.2 w' ?_⟩) id
  obtain ⟨L, hcL, hrL, hSL⟩ := hw'
  exact ⟨_, ready_cnt hcL hrL, hSL⟩
 | .ex t r, k, listed, a, w, hB, hc, hS, h => by
  simp only [planB, Bool.and_eq_true, beq_iff_eq] at hB
  obtain ⟨⟨h1, h2⟩, h3⟩ := hB
  refine ⟨fun h0 => (by rw [h0] at h1; cases h1), fun i hi => ?_⟩
  have hi0 := hi
  rw [h1] at hi
  simp at hi
  subst hi
  refine wpOp_mono (fun a' w' h' => ⟨by show S' (cntT T _) w'; rw [h2]; exact h'.1, wpAnyG_plan hs hQ r (k + 1) _ a' w' h3 (closed_step hc hi0) (by rw [h2]; exact h'.1) h'.2⟩) h
 | .fork t r u q, k, listed, a, w, hB, hc, hS, h => by
  simp only [planB, Bool.and_eq_true, beq_iff_eq] at hB
  obtain ⟨⟨⟨⟨⟨h1, h2⟩, h3⟩, h4⟩, h5⟩, h6⟩ := hB
  refine ⟨fun h0 => (by rw [h0] at h1; cases h1), fun i hi => ?_⟩
  have hi0 := hi
  rw [h1] at hi
  simp at hi
  rcases hi with rfl | rfl
  · exact wpOp_mono (fun a' w' h' => ⟨by show S' (cntT T _) w'; rw [h2]; exact h'.1, wpAnyG_plan hs hQ r (k + 1) _ a' w' h5 (closed_step hc hi0) (by rw [h2]; exact h'.1) h'.2⟩) h.1
  · refine wpOp_mono (fun a' w' h' => ⟨by show S' (cntT T _) w'; rw [h3]; exact h'.1, ?_⟩) h.2
    have ih := wpAnyG_plan hs hQ q (k + 1) _ a' w' h6 (closed_step hc hi0) (by rw [h3]; exact h'.1) h'.2
    rw [← h4] at ih
    exact ih
/-- **THE LAW** -/
theorem wp_region_plan {id : Nat} {l : List Oper} {a : Act} {w : World} (T : List Nat) (L : Plan) (S' : Nat → World → Prop) (hm : P.follows .mixedOrders = true)
 (hB : (Region.noSelect l.toArray && planB l.toArray T 0 (Array.replicate l.toArray.size false) L && (L.len == l.toArray.size) && (cntT T (Array.replicate l.toArray.size false) == 0)) = true)
 (hQ : ∀ c (a : Act) (d : Nat) v w, Q (.panic c) (a.put (some d) v) w → Q (.panic c) a w) (hS : S' 0 w.drew)
 (h : wpPl P l.toArray Q S' T 0 L a w.drew) : (Code.region id l.toArray true).wp P Q a w := by
 simp only [Bool.and_eq_true, beq_iff_eq] at hB
 obtain ⟨⟨⟨h1, h2⟩, h4⟩, h5⟩ := hB
 refine wp_region_any hm (wpAny_of_G (S := fun L w => S' (cntT T L) w) _ _ _ _ ?_)
 have hst : S' (cntT T (Array.replicate l.toArray.size false)) w.drew := by rw [h5]; exact hS
 have key := wpAnyG_plan (P := P) (ops := l.toArray) (Q := Q) (S' := S') (T := T) h1 hQ L 0 (Array.replicate l.toArray.size false) a w.drew h2 closed_start hst h
 rwa [h4] at key
theorem wpPl_read {T : List Nat} {k i : Nat} {r : Plan} {a : Act} {w : World} {o : Oper} (v : Value) (ho : ops[i]? = some o) (hg : o.guard = none)
 (hy : ∀ w' k, k ≤ kcnt ops T i → S' k w' → (execOp a.eval o).run P w' = .ok (.value v) w') (h : wpPl P ops Q S' T k r (a.put o.dst v) w) : wpPl P ops Q S' T k (.rd i r) a w :=
 ⟨o, ho, v, .inl ⟨by simp [Region.wanted, hg], fun w' ⟨k, hk, hS⟩ => hy w' k hk hS⟩, h⟩
theorem wpPl_do {T : List Nat} {k t : Nat} {r : Plan} {a : Act} {w : World} {o : Oper} (ho : ops[t]? = some o) (hg : o.guard = none)
 (h : o.wp P a w (fun a' w' => S' (k + 1) w' ∧ wpPl P ops Q S' T (k + 1) r a' w') Q) : wpPl P ops Q S' T k (.ex t r) a w := by
 simp only [wpPl, wpOp, ho]
 rw [if_pos (by simp [Region.wanted, hg])]
 exact .inl h
theorem wpPl_want {T : List Nat} {k i : Nat} {r : Plan} {a : Act} {w : World} {o : Oper} (v : Value) (ho : ops[i]? = some o) (hg : Region.wanted o (yielded ops a.tmps) = true)
 (hy : ∀ w' k, k ≤ kcnt ops T i → S' k w' → (execOp a.eval o).run P w' = .ok (.value v) w') (h : wpPl P ops Q S' T k r (a.put o.dst v) w) : wpPl P ops Q S' T k (.rd i r) a w :=
 ⟨o, ho, v, .inl ⟨hg, fun w' ⟨k, hk, hS⟩ => hy w' k hk hS⟩, h⟩
theorem wpPl_drop {T : List Nat} {k i : Nat} {r : Plan} {a : Act} {w : World} {o : Oper} (ho : ops[i]? = some o) (hg : Region.wanted o (yielded ops a.tmps) = false)
 (h : wpPl P ops Q S' T k r (a.put o.dst undef) w) : wpPl P ops Q S' T k (.rd i r) a w :=
 ⟨o, ho, undef, .inr ⟨hg, rfl⟩, h⟩
theorem wpPl_nil {T : List Nat} {k : Nat} {a : Act} {w : World} (h : Q .normal a w) : wpPl P ops Q S' T k .nil a w := h
theorem wpPl_fork {T : List Nat} {k t u : Nat} {r q : Plan} {a : Act} {w : World} (h : wpPl P ops Q S' T k (.ex t r) a w) (h2 : wpPl P ops Q S' T k (.ex u q) a w) : wpPl P ops Q S' T k (.fork t r u q) a w := ⟨h, h2⟩
end
section
variable {P : Program} {Q : Exit → Act → World → Prop} {a : Act} {w w1 w' : World} {n : Nat} {l : List (Nat × Value)} {d : Nat} {op : Op} {ty : TypeId} {pos : String} {aft : Array Edge} {v : Value} {x y : Operand} {F : Nat → Prop} {T : List Nat} {k i i2 : Nat} {r r2 : Plan} {ops : Array Oper}
theorem reg_p {id : Nat} {lo : List Oper} (F : Nat → Prop) (m : Nat) (T : List Nat) (Ls : Plan) (hm : P.follows .mixedOrders = true)
 (hB : (Region.noSelect lo.toArray && planB lo.toArray T 0 (Array.replicate lo.toArray.size false) Ls && (Ls.len == lo.toArray.size) && (cntT T (Array.replicate lo.toArray.size false) == 0)) = true)
 (hQ : ∀ c (a : Act) (d : Nat) v w, Q (.panic c) (a.put (some d) v) w → Q (.panic c) a w)
 (h : ∀ w1, Only NoF w w1 → wpPl P lo.toArray Q (SK F m w1) T 0 Ls a w1) : (Code.region id lo.toArray true).wp P Q a w :=
 wp_region_plan T Ls (SK F m w.drew) hm hB hQ ⟨fun _ => Only.refl _ _, Only.refl _ _⟩ (h _ (Only.refl _ _).drew)
theorem SKp.rd {j m : Nat} {W : World} {T : List Nat} {i : Nat} {b : Bool} (h : SK F m w1 j W) (hj : j ≤ kcnt ops T i) (hk : Nat.ble (kcnt ops T i) m = b) : Only (bif b then NoF else F) w1 W := by
 cases b with
 | true => exact h.1 (Nat.le_trans hj (Nat.le_of_ble_eq_true hk))
 | false => exact h.2
variable {m : Nat} {b : Bool}
namespace Pl
theorem MSP (hk : Nat.ble (kcnt ops T i) m = b) (hr : ∀ W, Only (bif b then NoF else F) w1 W → (execOp a.eval ⟨some d, op, ty, pos, aft, none⟩).run P W = .ok (.value v) W) (H : Fr n l a) (ho : ops[i]? = some ⟨some d, op, ty, pos, aft, none⟩) (hd : Nat.blt d n = true)
 (h : ∀ a', Fr n ((d, v) :: l) a' → wpPl P ops Q (SK F m w1) T k r a' w) : wpPl P ops Q (SK F m w1) T k (.rd i r) a w :=
 wpPl_read v ho rfl (fun w' _ hj hS => hr w' (SKp.rd hS hj hk)) (h _ (H.puts hd v))
theorem MSPT {j dj : Nat} {want : Bool} (hk : Nat.ble (kcnt ops T i) m = b) (H : Fr n l a) (hj : (ops[j]?).bind (·.dst) = some dj) (hb : look l dj = some (.bool want)) (hr : ∀ W, Only (bif b then NoF else F) w1 W → (execOp a.eval ⟨some d, op, ty, pos, aft, some (j, want)⟩).run P W = .ok (.value v) W)
 (ho : ops[i]? = some ⟨some d, op, ty, pos, aft, some (j, want)⟩) (hd : Nat.blt d n = true)
 (h : ∀ a', Fr n ((d, v) :: l) a' → wpPl P ops Q (SK F m w1) T k r a' w) : wpPl P ops Q (SK F m w1) T k (.rd i r) a w :=
 wpPl_want v ho (wanted_eq (c := true) H hj hb (by cases want <;> rfl)) (fun w' _ hj hS => hr w' (SKp.rd hS hj hk)) (h _ (H.puts hd _))
theorem MSPF {j dj : Nat} {want : Bool} {u : Value} (H : Fr n l a) (hj : (ops[j]?).bind (·.dst) = some dj) (hb : look l dj = some u) (hn : Gd u want false)
 (ho : ops[i]? = some ⟨some d, op, ty, pos, aft, some (j, want)⟩) (hd : Nat.blt d n = true)
 (h : ∀ a', Fr n ((d, undef) :: l) a' → wpPl P ops Q (SK F m w1) T k r a' w) : wpPl P ops Q (SK F m w1) T k (.rd i r) a w :=
 wpPl_drop ho (wanted_eq H hj hb hn) (h _ (H.puts hd _))
theorem MSPG {j dj : Nat} {want c : Bool} {u : Value} (hk : Nat.ble (kcnt ops T i) m = b) (H : Fr n l a) (hj : (ops[j]?).bind (·.dst) = some dj) (hb : look l dj = some u) (hc : Gd u want c) (hr : c = true → ∀ W, Only (bif b then NoF else F) w1 W → (execOp a.eval ⟨some d, op, ty, pos, aft, some (j, want)⟩).run P W = .ok (.value v) W)
 (ho : ops[i]? = some ⟨some d, op, ty, pos, aft, some (j, want)⟩) (hd : Nat.blt d n = true)
 (h : ∀ a', Fr n ((d, gv c v) :: l) a' → wpPl P ops Q (SK F m w1) T k r a' w) : wpPl P ops Q (SK F m w1) T k (.rd i r) a w := by
 have hx := h _ (H.puts hd _)
 by_cases e : c = true
 · rw [gv, if_pos e] at hx
   exact wpPl_want v ho (by rw [wanted_eq H hj hb hc, e]) (fun w' _ hj hS => hr e w' (SKp.rd hS hj hk)) hx
 · rw [gv, if_neg e] at hx
   exact wpPl_drop ho (by rw [wanted_eq H hj hb hc]; simpa using e) hx
theorem MD {w' : World} (hr : (execOp a.eval ⟨some d, op, ty, pos, aft, none⟩).run P w = .ok (.value v) w') (H : Fr n l a) (ho : ops[i]? = some ⟨some d, op, ty, pos, aft, none⟩) (hd : Nat.blt d n = true) (hS : SK F m w1 (k + 1) w')
 (h : ∀ a', Fr n ((d, v) :: l) a' → wpPl P ops Q (SK F m w1) T (k + 1) r a' w') : wpPl P ops Q (SK F m w1) T k (.ex i r) a w := by
 refine wpPl_do ho rfl ?_
 simp only [Oper.wp, hr]
 exact ⟨hS, h _ (H.puts hd _)⟩
theorem MDT {w' : World} {j dj : Nat} {want : Bool} (H : Fr n l a) (hj : (ops[j]?).bind (·.dst) = some dj) (hb : look l dj = some (.bool want)) (hr : (execOp a.eval ⟨some d, op, ty, pos, aft, some (j, want)⟩).run P w = .ok (.value v) w') (ho : ops[i]? = some ⟨some d, op, ty, pos, aft, some (j, want)⟩) (hd : Nat.blt d n = true) (hS : SK F m w1 (k + 1) w')
 (h : ∀ a', Fr n ((d, v) :: l) a' → wpPl P ops Q (SK F m w1) T (k + 1) r a' w') : wpPl P ops Q (SK F m w1) T k (.ex i r) a w := by
 have hw := wanted_eq (op := op) (ty := ty) (pos := pos) (aft := aft) (d := d) (want := want) (c := true) H hj hb (by cases want <;> rfl)
 simp only [wpPl, wpOp, ho]
 rw [hw, if_pos rfl]
 refine .inl ?_
 simp only [Oper.wp, hr]
 exact ⟨hS, h _ (H.puts hd _)⟩
theorem MSC {xs : List Operand} {ats : Array TypeId} {f : FuncId} {vs : List Value} {fo : Operand} {R : Ending → World → Prop} (H : Fr n l a) (ho : ops[i]? = some ⟨some d, .call { callee := .value fo, args := xs.toArray, argTypes := ats }, ty, pos, aft, none⟩) (hfo : ev l fo = some (.func (.func f) #[] #[])) (hv : evs l xs = some vs)
 (hf : ∀ args w, (callFunc f args).run P w = .ok (.enter f args) w) (hc : Calls P f vs.toArray w R) (hd : Nat.blt d n = true)
 (h : ∀ e w', R e w' → ∃ v, e = .returned v ∧ SK F m w1 (k + 1) w' ∧ ∀ a', Fr n ((d, v) :: l) a' → wpPl P ops Q (SK F m w1) T (k + 1) r a' w') : wpPl P ops Q (SK F m w1) T k (.ex i r) a w := by
 refine wpPl_do ho rfl ?_
 simp only [Oper.wp, call_run H hfo hv hf, Oper.upon_enter]
 refine hc.mono fun e w' hR => ?_
 obtain ⟨v, rfl, h1, h2⟩ := h e w' hR
 exact ⟨h1, h2 _ (H.puts hd v)⟩
theorem MSGC {j dj : Nat} {want c : Bool} {u : Value} {xs : List Operand} {ats : Array TypeId} {f : FuncId} {vs : List Value} {fo : Operand} (Tv : Value → World → Prop) (H : Fr n l a) (hj : (ops[j]?).bind (·.dst) = some dj) (hb : look l dj = some u) (hgc : Gd u want c)
 (ho : ops[i]? = some ⟨some d, .call { callee := .value fo, args := xs.toArray, argTypes := ats }, ty, pos, aft, some (j, want)⟩) (hfo : ev l fo = some (.func (.func f) #[] #[])) (hv : c = true → evs l xs = some vs)
 (hf : ∀ args w, (callFunc f args).run P w = .ok (.enter f args) w) (hc : c = true → Calls P f vs.toArray w (fun e w' => ∃ v, e = .returned v ∧ Tv v w')) (hn : c = false → Tv undef w) (hd : Nat.blt d n = true)
 (h : ∀ v w', Tv v w' → SK F m w1 (k + 1) w' ∧ ∀ a', Fr n ((d, v) :: l) a' → wpPl P ops Q (SK F m w1) T (k + 1) r a' w') : wpPl P ops Q (SK F m w1) T k (.ex i r) a w := by
 have hw := wanted_eq (op := .call { callee := .value fo, args := xs.toArray, argTypes := ats }) (ty := ty) (pos := pos) (aft := aft) (d := d) (want := want) H hj hb hgc
 simp only [wpPl, wpOp, ho]
 rw [hw]
 by_cases e : c = true
 · rw [if_pos e]
   refine .inl ?_
   simp only [Oper.wp, call_run H hfo (hv e) hf, Oper.upon_enter]
   refine (hc e).mono fun e w' hR => ?_
   obtain ⟨v, rfl, h2⟩ := hR
   obtain ⟨h1, h2⟩ := h _ _ h2
   exact ⟨h1, h2 _ (H.puts hd v)⟩
 · rw [if_neg e]
   obtain ⟨h1, h2⟩ := h _ _ (hn (by simpa using e))
   exact ⟨h1, h2 _ (H.puts hd _)⟩
theorem MSS {t e : TypeId} {g off sz : Nat} {q : Addr} {cs vs cs' : List Value} (hS : ∀ w, (sizeOf t).run P w = .ok sz w) (H : Fr n l a) (ho : ops[i]? = some ⟨none, .store t x y, ty, pos, aft, none⟩) (hx : ev l x = some (.pointer (some q))) (hq : q = ⟨g, off, none⟩) (hy : ev l y = some v) (hv : v.cells = vs.toArray) (hm : (vs.length == sz) = true) (h1 : AllOne vs)
 (hB : Blk w g e cs.toArray) (hlen : Nat.ble (off + vs.length) cs.length = true) (hcs : splice cs off vs = cs') (h : ∀ w', Only (oneF g) w w' → Blk w' g e cs'.toArray → SK F m w1 (k + 1) w' ∧ wpPl P ops Q (SK F m w1) T (k + 1) r a w') :
 wpPl P ops Q (SK F m w1) T k (.ex i r) a w := by
 subst hq
 obtain ⟨w', hr, h2, h3⟩ := run_store (P := P) hS hv hm h1 hB hlen hcs
 refine wpPl_do ho rfl ?_
 have hr' : (execOp a.eval ⟨none, .store t x y, ty, pos, aft, none⟩).run P w = .ok .skip w' := by
  simp only [execOp, H.eval hx, H.eval hy, Sem.run_bind, hr, Result.andThen_ok, Sem.run_pure]
 simp only [Oper.wp, hr']
 obtain ⟨h4, h5⟩ := h w' h2 h3
 exact ⟨h4, h5⟩
/-- a call under a guard that holds -/
theorem MSCT {j dj : Nat} {want : Bool} {xs : List Operand} {ats : Array TypeId} {f : FuncId} {vs : List Value} {fo : Operand} {R : Ending → World → Prop} (H : Fr n l a) (hj : (ops[j]?).bind (·.dst) = some dj) (hb : look l dj = some (.bool want)) (ho : ops[i]? = some ⟨some d, .call { callee := .value fo, args := xs.toArray, argTypes := ats }, ty, pos, aft, some (j, want)⟩) (hfo : ev l fo = some (.func (.func f) #[] #[])) (hv : evs l xs = some vs)
 (hf : ∀ args w, (callFunc f args).run P w = .ok (.enter f args) w) (hc : Calls P f vs.toArray w R) (hd : Nat.blt d n = true)
 (h : ∀ e w', R e w' → ∃ v, e = .returned v ∧ SK F m w1 (k + 1) w' ∧ ∀ a', Fr n ((d, v) :: l) a' → wpPl P ops Q (SK F m w1) T (k + 1) r a' w') : wpPl P ops Q (SK F m w1) T k (.ex i r) a w := by
 have hw := wanted_eq (op := .call { callee := .value fo, args := xs.toArray, argTypes := ats }) (ty := ty) (pos := pos) (aft := aft) (d := d) (want := want) (c := true) H hj hb (by cases want <;> rfl)
 simp only [wpPl, wpOp, ho]
 rw [hw, if_pos rfl]
 refine .inl ?_
 simp only [Oper.wp, call_run H hfo hv hf, Oper.upon_enter]
 refine hc.mono fun e w' hR => ?_
 obtain ⟨v, rfl, h1, h2⟩ := h e w' hR
 exact ⟨h1, h2 _ (H.puts hd v)⟩
end Pl
end
section
variable {P : Program} {ops : Array Oper} {Q : Exit → Act → World → Prop} {rest : List Oper} {a : Act} {w w1 w' : World} {n : Nat} {l : List (Nat × Value)} {d : Nat} {ty : TypeId} {pos : String} {aft : Array Edge} {v : Value} {xs : List Operand} {ats : Array TypeId} {f : FuncId} {vs : List Value} {fo : Operand} {j dj : Nat} {want c : Bool} {u : Value} {T : List Nat} {k i : Nat} {r r2 : Plan} {F : Nat → Prop} {m : Nat}
namespace Pl
theorem MSV (H : Fr n l a) (ho : ops[i]? = some ⟨some d, .call { callee := .value fo, args := xs.toArray, argTypes := ats }, ty, pos, aft, none⟩) (hfo : ev l fo = some (.func (.func f) #[] #[])) (hv : evs l xs = some vs)
 (hf : ∀ args w, (callFunc f args).run P w = .ok (.enter f args) w) (hc : Calls P f vs.toArray w (Fix v w)) (hd : Nat.blt d n = true) (hw : ∀ w', Only NoF w w' → SK F m w1 (k + 1) w')
 (h : ∀ w', Only NoF w w' → ∀ a', Fr n ((d, v) :: l) a' → wpPl P ops Q (SK F m w1) T (k + 1) r a' w') : wpPl P ops Q (SK F m w1) T k (.ex i r) a w :=
 MSC H ho hfo hv hf hc hd fun _ _ ⟨h1, h2⟩ => ⟨_, h1, hw _ h2, h _ h2⟩
theorem MSGV (H : Fr n l a) (hj : (ops[j]?).bind (·.dst) = some dj) (hb : look l dj = some u) (hgc : Gd u want c) (ho : ops[i]? = some ⟨some d, .call { callee := .value fo, args := xs.toArray, argTypes := ats }, ty, pos, aft, some (j, want)⟩) (hfo : ev l fo = some (.func (.func f) #[] #[]))
 (hv : c = true → evs l xs = some vs) (hf : ∀ args w, (callFunc f args).run P w = .ok (.enter f args) w) (hc : c = true → Calls P f vs.toArray w (Fix v w)) (hd : Nat.blt d n = true) (hw : ∀ w', Only NoF w w' → SK F m w1 (k + 1) w')
 (h : ∀ w', Only NoF w w' → ∀ a', Fr n ((d, gv c v) :: l) a' → wpPl P ops Q (SK F m w1) T (k + 1) r a' w') : wpPl P ops Q (SK F m w1) T k (.ex i r) a w :=
 MSGC (fun v' w' => v' = gv c v ∧ Only NoF w w') H hj hb hgc ho hfo hv hf (fun h => (hc h).mono fun _ _ ⟨h1, h2⟩ => ⟨_, h1, by rw [gv, if_pos h], h2⟩) (fun h => ⟨by rw [gv, if_neg (by simp [h])], Only.refl _ _⟩) hd
  fun v' w' ⟨h1, h2⟩ => by subst h1; exact ⟨hw _ h2, h _ h2⟩
end Pl
end
section
variable {P : Program} {ops : Array Oper} {Q : Exit → Act → World → Prop} {rest : List Oper} {a : Act} {w w' : World} {n : Nat} {l : List (Nat × Value)} {d : Nat} {op : Op} {ty : TypeId} {pos : String} {aft : Array Edge} {v : Value}
theorem LCT {j dj : Nat} {want : Bool} {xs : List Operand} {ats : Array TypeId} {f : FuncId} {vs : List Value} {fo : Operand} {R : Ending → World → Prop} (H : Fr n l a) (hj : (ops[j]?).bind (·.dst) = some dj) (hb : look l dj = some (.bool want)) (hfo : ev l fo = some (.func (.func f) #[] #[])) (hv : evs l xs = some vs) (hf : ∀ args w, (callFunc f args).run P w = .ok (.enter f args) w)
 (hc : Calls P f vs.toArray w R) (hd : Nat.blt d n = true) (h : ∀ e w', R e w' → ∃ v, e = .returned v ∧ ∀ a', Fr n ((d, v) :: l) a' → wpList P ops Q rest a' w') :
 wpList P ops Q (⟨some d, .call { callee := .value fo, args := xs.toArray, argTypes := ats }, ty, pos, aft, some (j, want)⟩ :: rest) a w := by
 refine wpList_step fun K hK => ?_
 rw [wanted_eq (c := true) H hj hb (by cases want <;> rfl), if_pos rfl]
 simp only [Oper.wp, call_run H hfo hv hf, Oper.upon_enter]
 refine hc.mono fun e w' hR => ?_
 obtain ⟨v, rfl, h2⟩ := h e w' hR
 exact hK _ _ (h2 _ (H.puts hd v))
end
end Go.Proofs.YtdcbjedkddgfkaaGreatDoor
