/-
  As Vp: a region that draws its order, where what comes up first turns less than what comes up later. No condition: a law over any program.
-/
import Derived.Test.YtdcbjedkddgfkaaGreatDoorVp
namespace Go.Proofs.YtdcbjedkddgfkaaGreatDoor
set_option linter.unusedVariables false
set_option linter.unusedSimpArgs false
set_option linter.unusedSectionVars false
open Go.RowKit
/-- the first m1 of the forced operations only make memory, the first m turn F1 alone -/
def SQ (F1 F : Nat → Prop) (m1 m : Nat) (w1 : World) (j : Nat) (W : World) : Prop := (j ≤ m1 → Only NoF w1 W) ∧ (j ≤ m → Only F1 w1 W) ∧ Only F w1 W
def lvl (m1 m k : Nat) : Nat := if Nat.ble k m1 = true then 0 else if Nat.ble k m = true then 1 else 2
def sel (b : Nat) (F1 F : Nat → Prop) : Nat → Prop := match b with
 | 0 => NoF
 | 1 => F1
 | _ => F
section
variable {P : Program} {Q : Exit → Act → World → Prop} {a : Act} {w w1 w' : World} {n : Nat} {l : List (Nat × Value)} {d : Nat} {op : Op} {ty : TypeId} {pos : String} {aft : Array Edge} {v : Value} {x y : Operand} {F : Nat → Prop} {T : List Nat} {k i i2 : Nat} {r r2 : Plan} {ops : Array Oper}
theorem reg_q2 {id : Nat} {lo : List Oper} (F1 F : Nat → Prop) (m1 m : Nat) (T : List Nat) (Ls : Plan) (hm : P.follows .mixedOrders = true)
 (hB : (Region.noSelect lo.toArray && planB lo.toArray T 0 (Array.replicate lo.toArray.size false) Ls && (Ls.len == lo.toArray.size) && (cntT T (Array.replicate lo.toArray.size false) == 0)) = true)
 (hQ : ∀ c (a : Act) (d : Nat) v w, Q (.panic c) (a.put (some d) v) w → Q (.panic c) a w)
 (h : ∀ w1, Only NoF w w1 → wpPl P lo.toArray Q (SQ F1 F m1 m w1) T 0 Ls a w1) : (Code.region id lo.toArray true).wp P Q a w :=
 wp_region_plan T Ls (SQ F1 F m1 m w.drew) hm hB hQ ⟨fun _ => Only.refl _ _, fun _ => Only.refl _ _, Only.refl _ _⟩ (h _ (Only.refl _ _).drew)
theorem SQ.rd {j m1 m : Nat} {W : World} {T : List Nat} {i : Nat} {b : Nat} {F1 : Nat → Prop} (h : SQ F1 F m1 m w1 j W) (hj : j ≤ kcnt ops T i) (hk : lvl m1 m (kcnt ops T i) = b) : Only (sel b F1 F) w1 W := by
 subst hk
 unfold lvl
 by_cases h1 : Nat.ble (kcnt ops T i) m1 = true
 · rw [if_pos h1]; exact h.1 (Nat.le_trans hj (Nat.le_of_ble_eq_true h1))
 · rw [if_neg h1]
   by_cases h2 : Nat.ble (kcnt ops T i) m = true
   · rw [if_pos h2]; exact h.2.1 (Nat.le_trans hj (Nat.le_of_ble_eq_true h2))
   · rw [if_neg h2]; exact h.2.2
variable {m1 m : Nat} {b : Nat} {F1 : Nat → Prop}
namespace Pq
theorem MSP (hk : lvl m1 m (kcnt ops T i) = b) (hr : ∀ W, Only (sel b F1 F) w1 W → (execOp a.eval ⟨some d, op, ty, pos, aft, none⟩).run P W = .ok (.value v) W) (H : Fr n l a) (ho : ops[i]? = some ⟨some d, op, ty, pos, aft, none⟩) (hd : Nat.blt d n = true)
 (h : ∀ a', Fr n ((d, v) :: l) a' → wpPl P ops Q (SQ F1 F m1 m w1) T k r a' w) : wpPl P ops Q (SQ F1 F m1 m w1) T k (.rd i r) a w :=
 wpPl_read v ho rfl (fun w' _ hj hS => hr w' (SQ.rd hS hj hk)) (h _ (H.puts hd v))
theorem MSPT {j dj : Nat} {want : Bool} (hk : lvl m1 m (kcnt ops T i) = b) (H : Fr n l a) (hj : (ops[j]?).bind (·.dst) = some dj) (hb : look l dj = some (.bool want)) (hr : ∀ W, Only (sel b F1 F) w1 W → (execOp a.eval ⟨some d, op, ty, pos, aft, some (j, want)⟩).run P W = .ok (.value v) W)
 (ho : ops[i]? = some ⟨some d, op, ty, pos, aft, some (j, want)⟩) (hd : Nat.blt d n = true)
 (h : ∀ a', Fr n ((d, v) :: l) a' → wpPl P ops Q (SQ F1 F m1 m w1) T k r a' w) : wpPl P ops Q (SQ F1 F m1 m w1) T k (.rd i r) a w :=
 wpPl_want v ho (wanted_eq (c := true) H hj hb (by cases want <;> rfl)) (fun w' _ hj hS => hr w' (SQ.rd hS hj hk)) (h _ (H.puts hd _))
theorem MSPF {j dj : Nat} {want : Bool} {u : Value} (H : Fr n l a) (hj : (ops[j]?).bind (·.dst) = some dj) (hb : look l dj = some u) (hn : Gd u want false)
 (ho : ops[i]? = some ⟨some d, op, ty, pos, aft, some (j, want)⟩) (hd : Nat.blt d n = true)
 (h : ∀ a', Fr n ((d, undef) :: l) a' → wpPl P ops Q (SQ F1 F m1 m w1) T k r a' w) : wpPl P ops Q (SQ F1 F m1 m w1) T k (.rd i r) a w :=
 wpPl_drop ho (wanted_eq H hj hb hn) (h _ (H.puts hd _))
theorem MSPG {j dj : Nat} {want c : Bool} {u : Value} (hk : lvl m1 m (kcnt ops T i) = b) (H : Fr n l a) (hj : (ops[j]?).bind (·.dst) = some dj) (hb : look l dj = some u) (hc : Gd u want c) (hr : c = true → ∀ W, Only (sel b F1 F) w1 W → (execOp a.eval ⟨some d, op, ty, pos, aft, some (j, want)⟩).run P W = .ok (.value v) W)
 (ho : ops[i]? = some ⟨some d, op, ty, pos, aft, some (j, want)⟩) (hd : Nat.blt d n = true)
 (h : ∀ a', Fr n ((d, gv c v) :: l) a' → wpPl P ops Q (SQ F1 F m1 m w1) T k r a' w) : wpPl P ops Q (SQ F1 F m1 m w1) T k (.rd i r) a w := by
 have hx := h _ (H.puts hd _)
 by_cases e : c = true
 · rw [gv, if_pos e] at hx
   exact wpPl_want v ho (by rw [wanted_eq H hj hb hc, e]) (fun w' _ hj hS => hr e w' (SQ.rd hS hj hk)) hx
 · rw [gv, if_neg e] at hx
   exact wpPl_drop ho (by rw [wanted_eq H hj hb hc]; simpa using e) hx
theorem MD {w' : World} (hr : (execOp a.eval ⟨some d, op, ty, pos, aft, none⟩).run P w = .ok (.value v) w') (H : Fr n l a) (ho : ops[i]? = some ⟨some d, op, ty, pos, aft, none⟩) (hd : Nat.blt d n = true) (hS : SQ F1 F m1 m w1 (k + 1) w')
 (h : ∀ a', Fr n ((d, v) :: l) a' → wpPl P ops Q (SQ F1 F m1 m w1) T (k + 1) r a' w') : wpPl P ops Q (SQ F1 F m1 m w1) T k (.ex i r) a w := by
 refine wpPl_do ho rfl ?_
 simp only [Oper.wp, hr]
 exact ⟨hS, h _ (H.puts hd _)⟩
theorem MDT {w' : World} {j dj : Nat} {want : Bool} (H : Fr n l a) (hj : (ops[j]?).bind (·.dst) = some dj) (hb : look l dj = some (.bool want)) (hr : (execOp a.eval ⟨some d, op, ty, pos, aft, some (j, want)⟩).run P w = .ok (.value v) w') (ho : ops[i]? = some ⟨some d, op, ty, pos, aft, some (j, want)⟩) (hd : Nat.blt d n = true) (hS : SQ F1 F m1 m w1 (k + 1) w')
 (h : ∀ a', Fr n ((d, v) :: l) a' → wpPl P ops Q (SQ F1 F m1 m w1) T (k + 1) r a' w') : wpPl P ops Q (SQ F1 F m1 m w1) T k (.ex i r) a w := by
 have hw := wanted_eq (op := op) (ty := ty) (pos := pos) (aft := aft) (d := d) (want := want) (c := true) H hj hb (by cases want <;> rfl)
 simp only [wpPl, wpOp, ho]
 rw [hw, if_pos rfl]
 refine .inl ?_
 simp only [Oper.wp, hr]
 exact ⟨hS, h _ (H.puts hd _)⟩
theorem MSC {xs : List Operand} {ats : Array TypeId} {f : FuncId} {vs : List Value} {fo : Operand} {R : Ending → World → Prop} (H : Fr n l a) (ho : ops[i]? = some ⟨some d, .call { callee := .value fo, args := xs.toArray, argTypes := ats }, ty, pos, aft, none⟩) (hfo : ev l fo = some (.func (.func f) #[] #[])) (hv : evs l xs = some vs)
 (hf : ∀ args w, (callFunc f args).run P w = .ok (.enter f args) w) (hc : Calls P f vs.toArray w R) (hd : Nat.blt d n = true)
 (h : ∀ e w', R e w' → ∃ v, e = .returned v ∧ SQ F1 F m1 m w1 (k + 1) w' ∧ ∀ a', Fr n ((d, v) :: l) a' → wpPl P ops Q (SQ F1 F m1 m w1) T (k + 1) r a' w') : wpPl P ops Q (SQ F1 F m1 m w1) T k (.ex i r) a w := by
 refine wpPl_do ho rfl ?_
 simp only [Oper.wp, call_run H hfo hv hf, Oper.upon_enter]
 refine hc.mono fun e w' hR => ?_
 obtain ⟨v, rfl, h1, h2⟩ := h e w' hR
 exact ⟨h1, h2 _ (H.puts hd v)⟩
theorem MSGC {j dj : Nat} {want c : Bool} {u : Value} {xs : List Operand} {ats : Array TypeId} {f : FuncId} {vs : List Value} {fo : Operand} (Tv : Value → World → Prop) (H : Fr n l a) (hj : (ops[j]?).bind (·.dst) = some dj) (hb : look l dj = some u) (hgc : Gd u want c)
 (ho : ops[i]? = some ⟨some d, .call { callee := .value fo, args := xs.toArray, argTypes := ats }, ty, pos, aft, some (j, want)⟩) (hfo : ev l fo = some (.func (.func f) #[] #[])) (hv : c = true → evs l xs = some vs)
 (hf : ∀ args w, (callFunc f args).run P w = .ok (.enter f args) w) (hc : c = true → Calls P f vs.toArray w (fun e w' => ∃ v, e = .returned v ∧ Tv v w')) (hn : c = false → Tv undef w) (hd : Nat.blt d n = true)
 (h : ∀ v w', Tv v w' → SQ F1 F m1 m w1 (k + 1) w' ∧ ∀ a', Fr n ((d, v) :: l) a' → wpPl P ops Q (SQ F1 F m1 m w1) T (k + 1) r a' w') : wpPl P ops Q (SQ F1 F m1 m w1) T k (.ex i r) a w := by
 have hw := wanted_eq (op := .call { callee := .value fo, args := xs.toArray, argTypes := ats }) (ty := ty) (pos := pos) (aft := aft) (d := d) (want := want) H hj hb hgc
 simp only [wpPl, wpOp, ho]
 rw [hw]
 by_cases e : c = true
 · rw [if_pos e]
   refine .inl ?_
   simp only [Oper.wp, call_run H hfo (hv e) hf, Oper.upon_enter]
   refine (hc e).mono fun e w' hR => ?_
   obtain ⟨v, rfl, h2⟩ := hR
   obtain ⟨h1, h2⟩ := h _ _ h2
   exact ⟨h1, h2 _ (H.puts hd v)⟩
 · rw [if_neg e]
   obtain ⟨h1, h2⟩ := h _ _ (hn (by simpa using e))
   exact ⟨h1, h2 _ (H.puts hd _)⟩
theorem MSS {t e : TypeId} {g off sz : Nat} {q : Addr} {cs vs cs' : List Value} (hS : ∀ w, (sizeOf t).run P w = .ok sz w) (H : Fr n l a) (ho : ops[i]? = some ⟨none, .store t x y, ty, pos, aft, none⟩) (hx : ev l x = some (.pointer (some q))) (hq : q = ⟨g, off, none⟩) (hy : ev l y = some v) (hv : v.cells = vs.toArray) (hm : (vs.length == sz) = true) (h1 : AllOne vs)
 (hB : Blk w g e cs.toArray) (hlen : Nat.ble (off + vs.length) cs.length = true) (hcs : splice cs off vs = cs') (h : ∀ w', Only (oneF g) w w' → Blk w' g e cs'.toArray → SQ F1 F m1 m w1 (k + 1) w' ∧ wpPl P ops Q (SQ F1 F m1 m w1) T (k + 1) r a w') :
 wpPl P ops Q (SQ F1 F m1 m w1) T k (.ex i r) a w := by
 subst hq
 obtain ⟨w', hr, h2, h3⟩ := run_store (P := P) hS hv hm h1 hB hlen hcs
 refine wpPl_do ho rfl ?_
 have hr' : (execOp a.eval ⟨none, .store t x y, ty, pos, aft, none⟩).run P w = .ok .skip w' := by
  simp only [execOp, H.eval hx, H.eval hy, Sem.run_bind, hr, Result.andThen_ok, Sem.run_pure]
 simp only [Oper.wp, hr']
 obtain ⟨h4, h5⟩ := h w' h2 h3
 exact ⟨h4, h5⟩
/-- a call under a guard that holds -/
theorem MSCT {j dj : Nat} {want : Bool} {xs : List Operand} {ats : Array TypeId} {f : FuncId} {vs : List Value} {fo : Operand} {R : Ending → World → Prop} (H : Fr n l a) (hj : (ops[j]?).bind (·.dst) = some dj) (hb : look l dj = some (.bool want)) (ho : ops[i]? = some ⟨some d, .call { callee := .value fo, args := xs.toArray, argTypes := ats }, ty, pos, aft, some (j, want)⟩) (hfo : ev l fo = some (.func (.func f) #[] #[])) (hv : evs l xs = some vs)
 (hf : ∀ args w, (callFunc f args).run P w = .ok (.enter f args) w) (hc : Calls P f vs.toArray w R) (hd : Nat.blt d n = true)
 (h : ∀ e w', R e w' → ∃ v, e = .returned v ∧ SQ F1 F m1 m w1 (k + 1) w' ∧ ∀ a', Fr n ((d, v) :: l) a' → wpPl P ops Q (SQ F1 F m1 m w1) T (k + 1) r a' w') : wpPl P ops Q (SQ F1 F m1 m w1) T k (.ex i r) a w := by
 have hw := wanted_eq (op := .call { callee := .value fo, args := xs.toArray, argTypes := ats }) (ty := ty) (pos := pos) (aft := aft) (d := d) (want := want) (c := true) H hj hb (by cases want <;> rfl)
 simp only [wpPl, wpOp, ho]
 rw [hw, if_pos rfl]
 refine .inl ?_
 simp only [Oper.wp, call_run H hfo hv hf, Oper.upon_enter]
 refine hc.mono fun e w' hR => ?_
 obtain ⟨v, rfl, h1, h2⟩ := h e w' hR
 exact ⟨h1, h2 _ (H.puts hd v)⟩
end Pq
end
section
variable {P : Program} {ops : Array Oper} {Q : Exit → Act → World → Prop} {rest : List Oper} {a : Act} {w w1 w' : World} {n : Nat} {l : List (Nat × Value)} {d : Nat} {ty : TypeId} {pos : String} {aft : Array Edge} {v : Value} {xs : List Operand} {ats : Array TypeId} {f : FuncId} {vs : List Value} {fo : Operand} {j dj : Nat} {want c : Bool} {u : Value} {T : List Nat} {k i : Nat} {r r2 : Plan} {F : Nat → Prop} {m1 m : Nat} {F1 : Nat → Prop}
namespace Pq
theorem MSV (H : Fr n l a) (ho : ops[i]? = some ⟨some d, .call { callee := .value fo, args := xs.toArray, argTypes := ats }, ty, pos, aft, none⟩) (hfo : ev l fo = some (.func (.func f) #[] #[])) (hv : evs l xs = some vs)
 (hf : ∀ args w, (callFunc f args).run P w = .ok (.enter f args) w) (hc : Calls P f vs.toArray w (Fix v w)) (hd : Nat.blt d n = true) (hw : ∀ w', Only NoF w w' → SQ F1 F m1 m w1 (k + 1) w')
 (h : ∀ w', Only NoF w w' → ∀ a', Fr n ((d, v) :: l) a' → wpPl P ops Q (SQ F1 F m1 m w1) T (k + 1) r a' w') : wpPl P ops Q (SQ F1 F m1 m w1) T k (.ex i r) a w :=
 MSC H ho hfo hv hf hc hd fun _ _ ⟨h1, h2⟩ => ⟨_, h1, hw _ h2, h _ h2⟩
theorem MSGV (H : Fr n l a) (hj : (ops[j]?).bind (·.dst) = some dj) (hb : look l dj = some u) (hgc : Gd u want c) (ho : ops[i]? = some ⟨some d, .call { callee := .value fo, args := xs.toArray, argTypes := ats }, ty, pos, aft, some (j, want)⟩) (hfo : ev l fo = some (.func (.func f) #[] #[]))
 (hv : c = true → evs l xs = some vs) (hf : ∀ args w, (callFunc f args).run P w = .ok (.enter f args) w) (hc : c = true → Calls P f vs.toArray w (Fix v w)) (hd : Nat.blt d n = true) (hw : ∀ w', Only NoF w w' → SQ F1 F m1 m w1 (k + 1) w')
 (h : ∀ w', Only NoF w w' → ∀ a', Fr n ((d, gv c v) :: l) a' → wpPl P ops Q (SQ F1 F m1 m w1) T (k + 1) r a' w') : wpPl P ops Q (SQ F1 F m1 m w1) T k (.ex i r) a w :=
 MSGC (fun v' w' => v' = gv c v ∧ Only NoF w w') H hj hb hgc ho hfo hv hf (fun h => (hc h).mono fun _ _ ⟨h1, h2⟩ => ⟨_, h1, by rw [gv, if_pos h], h2⟩) (fun h => ⟨by rw [gv, if_neg (by simp [h])], Only.refl _ _⟩) hd
  fun v' w' ⟨h1, h2⟩ => by subst h1; exact ⟨hw _ h2, h _ h2⟩
end Pq
end
end Go.Proofs.YtdcbjedkddgfkaaGreatDoor
