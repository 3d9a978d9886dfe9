/-
  A calculus of small steps: what each slot of a frame holds, one lemma an operation, worlds as names. No condition: plain lemmas over any program.
-/
import Derived.Test.YtdcbjedkddgfkaaGreatDoorMem
import Derived.Test.YtdcbjedkddgfkaaGreatDoorMix
import Derived.KernelRfl

namespace Go.Proofs.YtdcbjedkddgfkaaGreatDoor
set_option linter.unusedVariables false
set_option linter.unusedSimpArgs false
set_option linter.unusedSectionVars false
open Go.RowKit
/-! ### Slots -/
def look : List (Nat × Value) → Nat → Option Value
 | [], _ => none
 | (k, v) :: l, t => bif Nat.beq k t then some v else look l t
structure Fr (n : Nat) (l : List (Nat × Value)) (a : Act) : Prop where
 size : a.tmps.size = n
 at_ : ∀ t v, look l t = some v → a.tmps[t]? = some v
 dfr : a.defers = []
def ev (l : List (Nat × Value)) : Operand → Option Value
 | .tmp t => look l t
 | .const v => some v
 | .global g => some (.pointer (some ⟨g, 0, none⟩))
 | .func f => some (.func (.func f) #[] #[])
def evs (l : List (Nat × Value)) : List Operand → Option (List Value)
 | [] => some []
 | x :: r => match ev l x, evs l r with | some v, some vs => some (v :: vs) | _, _ => none
/-- what a guarded operation's slot holds -/
def gv (c : Bool) (v : Value) : Value := if c = true then v else undef
/-- a guard's slot u, the answer that is wanted: whether the operation is done -/
def Gd (u : Value) (want c : Bool) : Prop := (match u with | .bool b => b == want | _ => false) = c
theorem gd_t {b : Bool} : Gd (.bool b) true b := by cases b <;> rfl
theorem gd_f {b : Bool} : Gd (.bool b) false (!b) := by cases b <;> rfl
theorem gd_gt {c b : Bool} : Gd (gv c (.bool b)) true (c && b) := by cases c <;> cases b <;> rfl
theorem gd_gf {c b : Bool} : Gd (gv c (.bool b)) false (c && !b) := by cases c <;> cases b <;> rfl
def AllL (l : List (Nat × Value)) : List (Nat × Value) → Prop
 | [] => True
 | (k, v) :: r => look l k = some v ∧ AllL l r
section
variable {n : Nat} {l l' : List (Nat × Value)} {a : Act} {x : Operand} {v : Value}
theorem Fr.eval (H : Fr n l a) (h : ev l x = some v) : a.eval x = v := by
 cases x with
 | tmp t =>
  have := H.at_ t v h
  simp [Act.eval, Array.getD_eq_getD_getElem?, this]
 | const u => simpa [ev, Act.eval] using h
 | global g => simpa [ev, Act.eval] using h
 | func f => simpa [ev, Act.eval] using h
theorem Fr.evals (H : Fr n l a) : ∀ {xs : List Operand} {vs : List Value}, evs l xs = some vs → xs.map a.eval = vs
 | [], vs, h => by simp [evs] at h; subst h; rfl
 | x :: r, vs, h => by
  unfold evs at h
  cases h1 : ev l x with
  | none => rw [h1] at h; simp at h
  | some u =>
   cases h2 : evs l r with
   | none => rw [h1, h2] at h; simp at h
   | some us =>
    rw [h1, h2] at h
    simp only [Option.some.injEq] at h
    subst h
    rw [List.map_cons, H.eval h1, H.evals h2]
theorem evs_c {l : List (Nat × Value)} {x : Operand} {r : List Operand} {v : Value} {vs : List Value} (h1 : ev l x = some v) (h2 : evs l r = some vs) : evs l (x :: r) = some (v :: vs) := by
 unfold evs
 rw [h1, h2]
theorem evg {c : Bool} (hb : c = true) (h : ev l x = some (gv c v)) : ev l x = some v := by
 rw [h, gv, if_pos hb]
theorem evgc {b c : Bool} (hb : b = true) (h : ev l x = some (gv (b && c) v)) : ev l x = some (gv c v) := by
 rw [h, hb, Bool.true_and]
theorem look_cons (k : Nat) (v : Value) (l : List (Nat × Value)) (t : Nat) : look ((k, v) :: l) t = if k = t then some v else look l t := by
 show (bif Nat.beq k t then some v else look l t) = _
 by_cases h : k = t
 · subst h; simp
 · have : Nat.beq k t = false := by cases hx : Nat.beq k t with | false => rfl | true => exact absurd (Nat.eq_of_beq_eq_true hx) h
   rw [this, if_neg h]; rfl
theorem Fr.puts (H : Fr n l a) {d : Nat} (hd : Nat.blt d n = true) (v : Value) : Fr n ((d, v) :: l) (a.put (some d) v) := by
 have hd' : d < n := by simpa [Nat.blt_eq] using hd
 refine ⟨by simpa [Act.put] using H.size, fun t u h => ?_, H.dfr⟩
 rw [look_cons] at h
 by_cases e : d = t
 · subst e
   rw [if_pos rfl] at h
   have hs : d < a.tmps.size := by rw [H.size]; exact hd'
   simpa [Act.put, hs] using h
 · rw [if_neg e] at h
   simpa [Act.put, Array.getElem?_setIfInBounds, e] using H.at_ t u h
theorem Fr.cut (H : Fr n l a) (h : AllL l l') : Fr n l' a := by
 refine ⟨H.size, ?_, H.dfr⟩
 have : ∀ t v, look l' t = some v → look l t = some v := by
  clear H
  induction l' with
  | nil => intro t v h; simp [look] at h
  | cons p r ih =>
   obtain ⟨k, u⟩ := p
   intro t v h'
   rw [look_cons] at h'
   by_cases e : k = t
   · subst e
     rw [if_pos rfl] at h'
     obtain rfl := Option.some.inj h'
     exact h.1
   · rw [if_neg e] at h'
     exact ih h.2 t v h'
 exact fun t v ht => H.at_ t v (this t v ht)
def zipFrom : Nat → List Value → List (Nat × Value)
 | _, [] => []
 | k, v :: r => (k, v) :: zipFrom (k + 1) r
theorem look_zip : ∀ (vs : List Value) (k t : Nat), look (zipFrom k vs) t = if k ≤ t then vs[t - k]? else none
 | [], k, t => by simp [zipFrom, look]
 | v :: r, k, t => by
  rw [zipFrom, look_cons, look_zip r (k + 1) t]
  by_cases h : k = t
  · subst h; simp
  · rw [if_neg h]
    by_cases h2 : k ≤ t
    · rw [if_pos (by omega), if_pos h2, show t - k = (t - (k + 1)) + 1 by omega, List.getElem?_cons_succ]
    · rw [if_neg (by omega), if_neg h2]
theorem Fr.start (vs : List Value) (m : Nat) : Fr (vs.length + m) (zipFrom 0 vs) { tmps := vs.toArray ++ Array.replicate m undef, defers := [] } := by
 refine ⟨by simp, fun t v h => ?_, rfl⟩
 rw [look_zip] at h
 simp only [Nat.zero_le, if_true, Nat.sub_zero] at h
 have hl : t < vs.length := (List.getElem?_eq_some_iff.1 h).1
 show (vs.toArray ++ Array.replicate m undef)[t]? = some v
 rw [Array.getElem?_append_left (by simpa using hl)]
 simpa using h
end
section
variable {P : Program}
/-- a call is entered -/
theorem calls_start {f : FuncId} {fn : Func} {c : Code} {vs : List Value} {w : World} {R : Ending → World → Prop} (hf : P.funcs[f]? = some fn) (hb : fn.body = some c) (hn : (fn.ntmps == vs.length + (fn.ntmps - vs.length)) = true)
 (h : ∀ a, Fr fn.ntmps (zipFrom 0 vs) a → c.wp P (bodyPost P fn R) a w) : Calls P f vs.toArray w R := by
 refine calls_of_wp hf hb ?_
 rw [List.size_toArray]
 have := Fr.start vs (fn.ntmps - vs.length)
 rw [← beq_iff_eq.1 hn] at this
 exact h _ this
end
/-! ### Steps of a region that is not drawn -/
section
variable {P : Program} {ops : Array Oper} {Q : Exit → Act → World → Prop} {rest : List Oper} {a : Act} {w w' : World} {n : Nat} {l : List (Nat × Value)} {d : Nat} {op : Op} {ty : TypeId} {pos : String} {aft : Array Edge} {v : Value}
theorem L (hr : (execOp a.eval ⟨some d, op, ty, pos, aft, none⟩).run P w = .ok (.value v) w') (H : Fr n l a) (hd : Nat.blt d n = true)
 (h : ∀ a', Fr n ((d, v) :: l) a' → wpList P ops Q rest a' w') : wpList P ops Q (⟨some d, op, ty, pos, aft, none⟩ :: rest) a w := by
 refine wpList_plain rfl fun K hK => ?_
 simp only [Oper.wp, hr]
 exact hK _ _ (h _ (H.puts hd v))
theorem wanted_eq {j dj : Nat} {want c : Bool} {u : Value} (H : Fr n l a) (hj : (ops[j]?).bind (·.dst) = some dj) (hb : look l dj = some u) (hc : Gd u want c) : Region.wanted ⟨some d, op, ty, pos, aft, some (j, want)⟩ (yielded ops a.tmps) = c := by
 have := H.at_ dj _ hb
 rw [← hc]
 simp only [Region.wanted, yielded, hj, Option.bind_some, this]
 cases u <;> simp
theorem LG {j dj : Nat} {want c : Bool} {u : Value} (H : Fr n l a) (hj : (ops[j]?).bind (·.dst) = some dj) (hb : look l dj = some u) (hc : Gd u want c) (hr : c = true → (execOp a.eval ⟨some d, op, ty, pos, aft, some (j, want)⟩).run P w = .ok (.value v) w) (hd : Nat.blt d n = true)
 (h : ∀ a', Fr n ((d, gv c v) :: l) a' → wpList P ops Q rest a' w) : wpList P ops Q (⟨some d, op, ty, pos, aft, some (j, want)⟩ :: rest) a w := by
 refine wpList_step fun K hK => ?_
 rw [wanted_eq H hj hb hc]
 have hx := h _ (H.puts hd _)
 by_cases e : c = true
 · rw [if_pos e]
   simp only [Oper.wp, hr e]
   rw [gv, if_pos e] at hx
   exact hK _ _ hx
 · rw [if_neg e]
   rw [gv, if_neg e] at hx
   exact hK _ _ hx
/-- the guard holds -/
theorem LT {j dj : Nat} {want : Bool} (H : Fr n l a) (hj : (ops[j]?).bind (·.dst) = some dj) (hb : look l dj = some (.bool want)) (hr : (execOp a.eval ⟨some d, op, ty, pos, aft, some (j, want)⟩).run P w = .ok (.value v) w') (hd : Nat.blt d n = true)
 (h : ∀ a', Fr n ((d, v) :: l) a' → wpList P ops Q rest a' w') : wpList P ops Q (⟨some d, op, ty, pos, aft, some (j, want)⟩ :: rest) a w := by
 refine wpList_step fun K hK => ?_
 rw [wanted_eq (c := true) H hj hb (by cases want <;> rfl), if_pos rfl]
 simp only [Oper.wp, hr]
 exact hK _ _ (h _ (H.puts hd _))
/-- the guard does not hold -/
theorem LF {j dj : Nat} {want : Bool} {u : Value} (H : Fr n l a) (hj : (ops[j]?).bind (·.dst) = some dj) (hb : look l dj = some u) (hn : Gd u want false) (hd : Nat.blt d n = true)
 (h : ∀ a', Fr n ((d, undef) :: l) a' → wpList P ops Q rest a' w) : wpList P ops Q (⟨some d, op, ty, pos, aft, some (j, want)⟩ :: rest) a w := by
 refine wpList_step fun K hK => ?_
 rw [wanted_eq H hj hb hn, if_neg (by simp)]
 exact hK _ _ (h _ (H.puts hd _))
/-- an operation without a slot: a store -/
theorem LS (hr : (execOp a.eval ⟨none, op, ty, pos, aft, none⟩).run P w = .ok .skip w') (h : wpList P ops Q rest a w') : wpList P ops Q (⟨none, op, ty, pos, aft, none⟩ :: rest) a w := by
 refine wpList_plain rfl fun K hK => ?_
 simp only [Oper.wp, hr]
 exact hK _ _ h
theorem call_run {xs : List Operand} {ats : Array TypeId} {f : FuncId} {vs : List Value} {dst : Option Tmp} {g : Option (Nat × Bool)} {fo : Operand} (H : Fr n l a) (hfo : ev l fo = some (.func (.func f) #[] #[])) (hv : evs l xs = some vs) (hf : ∀ args w, (callFunc f args).run P w = .ok (.enter f args) w) :
 (execOp a.eval ⟨dst, .call { callee := .value fo, args := xs.toArray, argTypes := ats }, ty, pos, aft, g⟩).run P w = .ok (.enter f vs.toArray) w := by
 have := H.evals hv
 simp only [execOp, resolve, Deferred.ofValue, invoke, H.eval hfo, Sem.run_bind, Sem.run_pure, Result.andThen_ok, List.map_toArray, this, Array.append_empty, Array.empty_append, hf]
theorem LC {xs : List Operand} {ats : Array TypeId} {f : FuncId} {vs : List Value} {fo : Operand} {R : Ending → World → Prop} (H : Fr n l a) (hfo : ev l fo = some (.func (.func f) #[] #[])) (hv : evs l xs = some vs) (hf : ∀ args w, (callFunc f args).run P w = .ok (.enter f args) w)
 (hc : Calls P f vs.toArray w R) (hd : Nat.blt d n = true) (h : ∀ e w', R e w' → ∃ v, e = .returned v ∧ ∀ a', Fr n ((d, v) :: l) a' → wpList P ops Q rest a' w') :
 wpList P ops Q (⟨some d, .call { callee := .value fo, args := xs.toArray, argTypes := ats }, ty, pos, aft, none⟩ :: rest) a w := by
 refine wpList_plain rfl fun K hK => ?_
 simp only [Oper.wp, call_run H hfo hv hf, Oper.upon_enter]
 refine hc.mono fun e w' hR => ?_
 obtain ⟨v, rfl, h2⟩ := h e w' hR
 exact hK _ _ (h2 _ (H.puts hd v))
/-- a call under a guard that is not known; what it gives is T's matter -/
theorem LGC {j dj : Nat} {want c : Bool} {u : Value} {xs : List Operand} {ats : Array TypeId} {f : FuncId} {vs : List Value} {fo : Operand} (T : Value → World → Prop) (H : Fr n l a) (hj : (ops[j]?).bind (·.dst) = some dj) (hb : look l dj = some u) (hgc : Gd u want c) (hfo : ev l fo = some (.func (.func f) #[] #[]))
 (hv : c = true → evs l xs = some vs) (hf : ∀ args w, (callFunc f args).run P w = .ok (.enter f args) w)
 (hc : c = true → Calls P f vs.toArray w (fun e w' => ∃ v, e = .returned v ∧ T v w')) (hn : c = false → T undef w) (hd : Nat.blt d n = true) (h : ∀ v w', T v w' → ∀ a', Fr n ((d, v) :: l) a' → wpList P ops Q rest a' w') :
 wpList P ops Q (⟨some d, .call { callee := .value fo, args := xs.toArray, argTypes := ats }, ty, pos, aft, some (j, want)⟩ :: rest) a w := by
 refine wpList_step fun K hK => ?_
 rw [wanted_eq H hj hb hgc]
 by_cases e : c = true
 · rw [if_pos e]
   simp only [Oper.wp, call_run H hfo (hv e) hf, Oper.upon_enter]
   refine (hc e).mono fun e w' hR => ?_
   obtain ⟨v, rfl, h2⟩ := hR
   exact hK _ _ (h _ _ h2 _ (H.puts hd v))
 · rw [if_neg e]
   exact hK _ _ (h _ _ (hn (by simpa using e)) _ (H.puts hd _))
end
end Go.Proofs.YtdcbjedkddgfkaaGreatDoor
