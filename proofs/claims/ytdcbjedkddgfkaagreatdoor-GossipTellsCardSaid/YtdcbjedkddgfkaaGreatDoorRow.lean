/-
  Rows whose elements are plain (their cells tell all): read element by element, sliced, appended to; which blocks a step may turn, and from which world on they are new. No condition: plain lemmas over any program.
-/
import Derived.Test.YtdcbjedkddgfkaaGreatDoorVm
namespace Go.Proofs.YtdcbjedkddgfkaaGreatDoor
set_option linter.unusedVariables false
set_option linter.unusedSimpArgs false
set_option linter.unusedSectionVars false
open Go.RowKit
structure Row (α : Type) where
 size : Nat
 cells : α → List Value
 ok : α → Prop
 hlen : ∀ x, (cells x).length = size
 hpos : 0 < size
 one : ∀ x, ∀ u ∈ cells x, u.oneCell' = true
def Row.R {α : Type} (K : Row α) : World → List Value → α → Prop := fun _ cs x => cs = K.cells x ∧ K.ok x
/-! ### What a step turns -/
def ownF (v : Value) : Nat → Prop := fun k => v.ownBlock = some k
section
variable {w0 wm w w' : World} {F : Nat → Prop} {g : Nat} {v : Value} {base e size n : Nat} {xs : List Value}
theorem o_sg (o : Only NoF w0 w) (s : Only F w w') (hm : w0.heap.size ≤ wm.heap.size) (G : ∀ k, F k → wm.heap.size ≤ k) : Only NoF w0 w' := o.trans s fun k hk => .inr (Nat.le_trans hm (G k hk))
theorem oneF_ge {m : Nat} (h : m ≤ g) : ∀ k, oneF g k → m ≤ k := fun k hk => by rw [show k = g from hk]; exact h
theorem oneF_lt {m : Nat} (h : g < m) : ∀ k, oneF g k → k < m := fun k hk => by rw [show k = g from hk]; exact h
theorem ownF_ge (h : w.ownsRow base e size v n xs) : ∀ k, ownF v k → base ≤ k := fun k hk => (h.lt k hk).1
theorem ownF_lt (h : w.ownsRow base e size v n xs) : ∀ k, ownF v k → k < w.heap.size := fun k hk => (h.lt k hk).2
/-- blocks from n on, of a step that turns older ones -/
theorem ge_F {m i : Nat} (lt : ∀ k, F k → k < m) (h : m ≤ i) : ∀ k, i ≤ k → ¬ F k := fun k hk hF => by have := lt k hF; omega
theorem lt_F {m i : Nat} (ge : ∀ k, F k → m ≤ k) (h : i ≤ m) : ∀ k, k < i → ¬ F k := fun k hk hF => by have := ge k hF; omega
theorem ow_only (h : w.ownsRow base e size v n xs) (ho : Only F w w') (hF : ∀ k, ownF v k → ¬ F k) : w'.ownsRow base e size v n xs := by
 obtain ⟨h1, h2⟩ := h
 refine ⟨h1, ?_⟩
 rcases h2 with h2 | ⟨g, cap, cur, hv, hg, hh, r⟩
 · exact .inl h2
 · exact .inr ⟨g, cap, cur, hv, hg, (ho.block g (Array.getElem?_eq_some_iff.1 hh).1 (hF g (by rw [ownF, hv]; rfl))).trans hh, r⟩
theorem ow_k (h : w.ownsRow base e size v n xs) (ho : Only NoF w w') : w'.ownsRow base e size v n xs := ow_only h ho fun _ _ h => h
/-- two owned rows of different kinds are two -/
theorem ow_ne {v' : Value} {base' e' size' n' : Nat} {xs' : List Value} (h : w.ownsRow base e size v n xs) (h' : w.ownsRow base' e' size' v' n' xs') (he : e ≠ e') : ∀ k, ownF v k → ¬ ownF v' k := by
 intro k hk hk'
 rcases h.2 with ⟨rfl, _⟩ | ⟨g, cap, cur, rfl, _, hh, _⟩
 · cases hk
 · rcases h'.2 with ⟨rfl, _⟩ | ⟨g', cap', cur', rfl, _, hh', _⟩
   · cases hk'
   · unfold ownF Value.ownBlock at hk hk'
     injection hk with hk
     injection hk' with hk'
     subst hk
     subst hk'
     rw [hh] at hh'
     injection hh' with hh'
     injection hh' with _ h3
     exact he h3
theorem ow_nb {t : TypeId} {cs : Array Value} (h : w.ownsRow base e size v n xs) (hB : Blk w g t cs) (he : t ≠ e) : ¬ ownF v g := by
 intro hk
 rcases h.2 with ⟨rfl, _⟩ | ⟨g', cap, cur, rfl, _, hh, _⟩
 · cases hk
 · unfold ownF Value.ownBlock at hk
   injection hk with hk
   subst hk
   unfold Blk at hB
   rw [hh] at hB
   injection hB with hB
   injection hB with _ h3
   exact he h3.symm
/-- a row that the call has just made is not one that was there -/
theorem ow_low {base' : Nat} (h : w.ownsRow base e size v n xs) (hb : base' ≤ base) : w.ownsRow base' e size v n xs := by
 obtain ⟨h1, h2⟩ := h
 refine ⟨h1, ?_⟩
 rcases h2 with h2 | ⟨g, cap, cur, hv, hg, r⟩
 · exact .inl h2
 · exact .inr ⟨g, cap, cur, hv, Nat.le_trans hb hg, r⟩
end
theorem ca_eA {W : World} {b off size k : Nat} {cs : List Value} (h : ∀ j u, cs[j]? = some u → W.cell? ⟨b, off + k * size + j, none⟩ = some u) : CA W (eA (some ⟨b, off, none⟩) size k) cs := by
 intro j u hu
 have e : (eA (some ⟨b, off, none⟩) size k).add j = ⟨b, off + k * size + j, none⟩ := by
  unfold eA
  rw [Option.getD_some, add_of_add, Addr.add_lit, Nat.add_assoc]
 rw [e]
 exact h j u hu
def geB (n : Nat) : Nat → Prop := fun k => n ≤ k
def neB (g : Nat) : Nat → Prop := fun k => k ≠ g
theorem neB.st {g : Nat} : ∀ k, neB g k → ¬ oneF g k := fun _ hk e => hk e
section
variable {α : Type} {size : Nat} {R : World → List Value → α → Prop} {l : List α} {w w' : World} {v : Value} {S F : Nat → Prop} {A : Option Addr} {n c k : Nat}
theorem SliceOf.kp (h : SliceOf S size R w v l) (o : Only F w w') (hF : ∀ k, S k → ¬ F k) (hR : ∀ w w' cs x, R w cs x → R w' cs x) : SliceOf S size R w' v l := SliceOf.only h o hF fun _ _ _ h => hR _ _ _ _ h
theorem SliceOf.cap_ (h : SliceOf S size R w (.slice A n c) l) : l.length ≤ c := by
 obtain ⟨A, c, xs, e, h1, _⟩ := h
 cases e
 exact h1
theorem SliceOf.lens (h : SliceOf S size R w (.slice A n c) l) : n = l.length ∧ c ≤ 9223372036854775807 := by
 obtain ⟨A, c, xs, e, h1, h2, _⟩ := h
 cases e
 exact ⟨rfl, h2⟩
theorem SliceOf.sub (h : SliceOf S size R w v l) {A : Option Addr} {m cap lo : Nat} (hv : v = .slice A l.length cap) (hl : lo + m ≤ l.length) : SliceOf S size R w (.slice (slA A cap lo size) m (cap - lo)) ((l.drop lo).take m) := by
 obtain ⟨A', cap', xs, e, h1, h2, h3, h4⟩ := h
 subst hv
 cases e
 have hlen : ((l.drop lo).take m).length = m := by simp; omega
 have h5 := (h3.cut (k := lo) (cap := cap) (by omega) h1).take_ (k := m) (by omega)
 refine ⟨_, _, _, by rw [hlen], by omega, by omega, by rw [hlen]; exact h5, fun i x hx => ?_⟩
 have hi : i < m := by have := (List.getElem?_eq_some_iff.1 hx).1; omega
 rw [List.getElem?_take, if_pos hi, List.getElem?_drop] at hx
 have := h4 _ x hx
 have e : (((xs.drop (lo * size)).take (m * size)).drop (i * size)).take size = (xs.drop ((lo + i) * size)).take size := by
  rw [List.drop_take, List.take_take, List.drop_drop, ← Nat.add_mul]
  congr 1
  have : (i + 1) * size ≤ m * size := Nat.mul_le_mul_right _ hi
  rw [Nat.succ_mul] at this
  omega
 rw [e]
 exact this
/-- the cells of a row of plain elements -/
theorem flat_get (K : Row α) : ∀ (l : List α) (i : Nat) (h : i < l.length), ((l.flatMap K.cells).drop (i * K.size)).take K.size = K.cells l[i]
 | [], i, h => by simp at h
 | x :: l, 0, _ => by
  simp only [Nat.zero_mul, List.drop_zero, List.flatMap_cons, List.getElem_cons_zero]
  rw [List.take_append_of_le_length (by rw [K.hlen]; exact Nat.le_refl _), List.take_of_length_le (by rw [K.hlen]; exact Nat.le_refl _)]
 | x :: l, i + 1, h => by
  have e : (i + 1) * K.size = (K.cells x).length + i * K.size := by rw [K.hlen, Nat.succ_mul, Nat.add_comm]
  rw [List.flatMap_cons, e, ← List.drop_drop, List.drop_left]
  simpa using flat_get K l i (by simpa using h)
theorem flat_len (K : Row α) (l : List α) : (l.flatMap K.cells).length = l.length * K.size := by
 induction l with
 | nil => simp
 | cons x l ih => rw [List.flatMap_cons, List.length_append, ih, K.hlen, List.length_cons, Nat.succ_mul, Nat.add_comm]
theorem flat_one (K : Row α) (l : List α) : ∀ u ∈ l.flatMap K.cells, u.oneCell' = true := by
 intro u hu
 obtain ⟨x, _, hx⟩ := List.mem_flatMap.1 hu
 exact K.one x u hx
theorem Row.reads (K : Row α) (h : SliceOf S K.size K.R w v l) : ∃ A c, v = .slice A l.length c ∧ l.length ≤ c ∧ c ≤ maxLen ∧ Reads w S K.size A l.length (l.flatMap K.cells) := by
 obtain ⟨A, cap, xs, e, h1, h2, h3, h4⟩ := h
 have e' : xs = l.flatMap K.cells := by
  apply List.ext_getElem?
  intro j
  have hp := K.hpos
  by_cases hj : j < l.length * K.size
  · have hi : j / K.size < l.length := Nat.div_lt_of_lt_mul (by rw [Nat.mul_comm]; exact hj)
    obtain ⟨hc, _⟩ := h4 (j / K.size) _ (List.getElem?_eq_getElem hi)
    have h5 := flat_get K l (j / K.size) hi
    have e1 : ∀ ys : List Value, ys[j]? = ((ys.drop (j / K.size * K.size)).take K.size)[j % K.size]? := fun ys => by
     rw [List.getElem?_take, if_pos (Nat.mod_lt _ hp), List.getElem?_drop]
     congr 1
     exact (Nat.div_add_mod' j K.size).symm
    rw [e1 xs, e1 (l.flatMap K.cells), hc, h5]
  · rw [List.getElem?_eq_none (by rw [h3.1]; omega), List.getElem?_eq_none (by rw [flat_len]; omega)]
 subst e'
 exact ⟨A, cap, e, h1, h2, h3⟩
theorem Row.ce (K : Row α) {x : α} (h : SliceOf S K.size K.R w (.slice A n c) l) (hm : l[k]? = some x) {cs : List Value} (hcs : K.cells x = cs) : ∀ W, Only NoF w W → CA W (eA A K.size k) cs := by
 obtain ⟨hk, rfl⟩ := List.getElem?_eq_some_iff.1 hm
 subst hcs
 obtain ⟨b, off, cap, e, h1, h2, _, hlt, h5⟩ := SliceOf.form h K.hpos (by omega)
 cases e
 obtain ⟨cs', ⟨rfl, _⟩, hc⟩ := h5 k l[k] (List.getElem?_eq_getElem hk)
 exact fun W o => ca_eA fun j u hu => (o.cell hlt id).trans (hc j u hu)
theorem Row.el (K : Row α) (h : SliceOf S K.size K.R w (.slice A n c) l) (hk : k < l.length) : ∃ x, l[k]? = some x ∧ K.ok x ∧ A.isSome = true := by
 obtain ⟨b, off, cap, e, h1, h2, _, hlt, h5⟩ := SliceOf.form h K.hpos (by omega)
 cases e
 obtain ⟨cs', ⟨rfl, hok⟩, hc⟩ := h5 k l[k] (List.getElem?_eq_getElem hk)
 exact ⟨l[k], List.getElem?_eq_getElem hk, hok, rfl⟩
theorem Row.oks (K : Row α) (h : SliceOf S K.size K.R w v l) : ∀ x ∈ l, K.ok x := by
 obtain ⟨A, cap, xs, _, _, _, _, h4⟩ := h
 intro m hm
 obtain ⟨i, hi⟩ := List.getElem?_of_mem hm
 exact (h4 i m hi).2
theorem Row.own (K : Row α) {base : Nat} {e : TypeId} (h : w.ownsRow base e K.size v l.length (l.flatMap K.cells)) (hok : ∀ x ∈ l, K.ok x) : SliceOf (geB base) K.size K.R w v l := by
 refine (SliceOf.of_own (R := K.R) h fun i x hx => ?_).sup fun k hk => (h.lt k hk).1
 obtain ⟨hi, rfl⟩ := List.getElem?_eq_some_iff.1 hx
 exact ⟨flat_get K l i hi, hok _ (List.getElem_mem hi)⟩
/-! ### append -/
variable {P : Program}
/-- an element type's size in cells and in bytes -/
def ElemIs (P : Program) (t e : TypeId) (size bytes : Nat) : Prop := P.underlying t = some (.slice e) ∧ ∃ i z, P.info? e = some i ∧ i.zero = some z ∧ i.size = size ∧ i.bytes = bytes ∧ z.cells.size = size
theorem Row.app (K : Row α) {t e : TypeId} {base bytes : Nat} {S : Nat → Prop} {l2 : List α} {A2 : Option Addr} {n2 c2 : Nat} (hE : ElemIs P t e K.size bytes) (hown : w.ownsRow base e K.size v l.length (l.flatMap K.cells)) (hs : SliceOf S K.size K.R w (.slice A2 n2 c2) l2)
 (hb : (l.length + l2.length) * bytes ≤ 140737488355328) (h63 : l.length + l2.length ≤ maxLen) (hbase : base ≤ w.heap.size) :
 ∃ A' c' w', (∀ ty, (Builtin.append_ #[t, t] ty #[v, .slice A2 n2 c2]).run P w = .ok (.slice A' (l ++ l2).length c') w') ∧ w'.ownsRow base e K.size (.slice A' (l ++ l2).length c') (l ++ l2).length ((l ++ l2).flatMap K.cells) ∧ Only (ownF v) w w' ∧
  ((Value.slice A' (l ++ l2).length c').ownBlock = v.ownBlock ∨ (Value.slice A' (l ++ l2).length c').ownBlock = some w.heap.size) := by
 obtain ⟨ht, i, z, hi, hz, h1, h2, h3⟩ := hE
 obtain ⟨A, c, e', _, _, hr⟩ := Row.reads K hs
 cases e'
 obtain ⟨v', w', hrun, ho, hg, ha⟩ := run_append_any (P := P) (w := w) base t t e i z K.size bytes ht hi hz h1 h2 h3 K.hpos v l.length _ hown S A2 l2.length c2 _ hr (flat_one K l2) h63 hb hbase
 have hrun2 : ∀ ty, (Builtin.append_ #[t, t] ty #[v, .slice A2 l2.length c2]).run P w = .ok v' w' := fun ty => hrun
 rw [← List.flatMap_append] at ho
 rw [← List.length_append] at ho
 obtain ⟨A', c', rfl, _, _, _⟩ := Reads.of_own ho
 exact ⟨A', c', w', hrun2, ho, (Only.refl _ _).grown hg fun k hk => .inl hk, ha⟩
end
section
variable {P : Program} {w w' : World} {n : Nat} {l : List (Nat × Value)} {a : Act} {dst : Option Tmp} {ty : TypeId} {pos : String} {aft : Array Edge} {g : Option (Nat × Bool)} {x y : Operand} {v u r : Value}
theorem r_app {t : TypeId} (h : ∀ ty, (Builtin.append_ #[t, t] ty #[v, u]).run P w = .ok r w') (H : Fr n l a) (hx : ev l x = some v) (hy : ev l y = some u) :
 (execOp a.eval ⟨dst, .call { callee := .builtin .append, args := #[x, y], argTypes := #[t, t] }, ty, pos, aft, g⟩).run P w = .ok (.value r) w' := by
 simp only [execOp, resolve, invoke, builtin, List.map_toArray, List.map_cons, List.map_nil, H.eval hx, H.eval hy, Sem.run_bind, Sem.run_pure, Result.andThen_ok, h]
/-- '[]T{}' -/
theorem r_bs0 {t e : TypeId} {size : Nat} (hu : P.underlying t = some (.slice e)) (hs : ∀ w, (sizeOf e).run P w = .ok size w) :
 (execOp a.eval ⟨dst, .buildSlice t 0 #[], ty, pos, aft, g⟩).run P w = .ok (.value (.slice (some ⟨w.heap.size, 0, none⟩) 0 0)) (w.alloc (.cells #[] e)) := by
 have h0 : ¬ (0 > 2 ^ 24) := by decide
 have hf : Instr.fill (fun i => some (i * size, size)) (Array.map (fun x => (#[] : Array Value)[x % 0]!) (Array.range 0)) [] = some #[] := by simp [Instr.fill]
 simp only [execOp, Instr.buildSlice, Sem.run_bind, run_underlying hu, Result.andThen_ok, hs, Nat.zero_mul, if_neg h0, if_true, Sem.run_pure, List.map_toArray, List.map_nil, Array.size_empty, hf]
 rfl
/-- '[]T{..}' -/
theorem r_bs {t e : TypeId} {size len : Nat} {z : Value} {parts : List (Nat × Operand)} {vs : List (Nat × Value)} {cs : List Value} (hu : P.underlying t = some (.slice e)) (hs : ∀ w, (sizeOf e).run P w = .ok size w) (hz : ∀ w, (zeroValue e).run P w = .ok z w)
 (hl : (Nat.blt 0 (len * size) && Nat.ble (len * size) 16777216) = true) (hv : parts.map (fun (i, x) => (i, a.eval x)) = vs) (hf : Instr.fill (fun i => some (i * size, size)) ((Array.range (len * size)).map fun i => z.cells[i % z.cells.size]!) vs = some cs.toArray) :
 (execOp a.eval ⟨dst, .buildSlice t len parts.toArray, ty, pos, aft, g⟩).run P w = .ok (.value (.slice (some ⟨w.heap.size, 0, none⟩) len len)) (w.alloc (.cells cs.toArray e)) := by
 simp only [Bool.and_eq_true, Nat.blt_eq, Nat.ble_eq] at hl
 have h0 : ¬ (len * size > 2 ^ 24) := by omega
 have h1 : ¬ (len * size = 0) := by omega
 have hv' : (parts.toArray.map fun x => (x.1, a.eval x.2)).toList = vs := by rw [List.map_toArray]; exact hv
 simp only [execOp, Instr.buildSlice, Sem.run_bind, run_underlying hu, Result.andThen_ok, hs, if_neg h0, if_neg h1, hz, Sem.run_pure, hv', hf]
 rfl
theorem made0 {e : TypeId} {size : Nat} : ∃ A w', w' = w.alloc (.cells #[] e) ∧ A = some ⟨w.heap.size, 0, none⟩ ∧ w'.ownsRow w.heap.size e size (.slice A 0 0) 0 [] ∧ Only NoF w w' :=
 ⟨_, _, rfl, rfl, World.ownsRow_made w #[] 0 (Nat.le_refl _) (by unfold maxLen; omega) (by simp), (Only.refl _ _).alloc _⟩
end
/-! ### blocks, built values, min and max -/
def evps (l : List (Nat × Value)) : List (Nat × Operand) → Option (List (Nat × Value))
 | [] => some []
 | (i, x) :: r => match ev l x, evps l r with | some v, some vs => some ((i, v) :: vs) | _, _ => none
section
variable {P : Program} {w w' : World} {n : Nat} {l : List (Nat × Value)} {a : Act} {dst : Option Tmp} {ty : TypeId} {pos : String} {aft : Array Edge} {g : Option (Nat × Bool)} {x y : Operand} {v u r : Value}
theorem Fr.evalps (H : Fr n l a) : ∀ {xs : List (Nat × Operand)} {vs : List (Nat × Value)}, evps l xs = some vs → xs.map (fun (i, x) => (i, a.eval x)) = vs
 | [], vs, h => by simp [evps] at h; subst h; rfl
 | (i, x) :: r, vs, h => by
  unfold evps at h
  cases h1 : ev l x with
  | none => rw [h1] at h; simp at h
  | some u =>
   cases h2 : evps l r with
   | none => rw [h1, h2] at h; simp at h
   | some us =>
    rw [h1, h2] at h
    simp only [Option.some.injEq] at h
    subst h
    have := H.evalps h2
    simp only [List.map_cons, H.eval h1, this]
theorem newBlk {e : TypeId} {cs : List Value} : ∃ g w', w' = w.alloc (.cells cs.toArray e) ∧ g = w.heap.size ∧ w.heap.size ≤ g ∧ g < w'.heap.size ∧ Only NoF w w' ∧ Blk w' g e cs.toArray :=
 ⟨_, _, rfl, rfl, Nat.le_refl _, by simp, (Only.refl _ _).alloc _, Blk.new _ _ _⟩
theorem Row.made {α : Type} (K : Row α) {e : TypeId} (l : List α) (hl : l.length ≤ maxLen) : ∃ A w', w' = w.alloc (.cells (l.flatMap K.cells).toArray e) ∧ A = some ⟨w.heap.size, 0, none⟩ ∧ w'.ownsRow w.heap.size e K.size (.slice A l.length l.length) l.length (l.flatMap K.cells) ∧ Only NoF w w' := by
 refine ⟨_, _, rfl, rfl, ?_, (Only.refl _ _).alloc _⟩
 exact own_of_blk (Blk.new w e _) (Nat.le_refl _) (flat_len K l) (Nat.le_refl _) hl (flat_len K l) (List.take_of_length_le (by rw [flat_len]; exact Nat.le_refl _))
theorem r_bd {t : TypeId} {parts : List (Nat × Operand)} {vs : List (Nat × Value)} (hr : ∀ w, (Instr.build t vs.toArray).run P w = .ok v w) (H : Fr n l a) (hv : evps l parts = some vs) :
 (execOp a.eval ⟨dst, .build t parts.toArray, ty, pos, aft, g⟩).run P w = .ok (.value v) w := by
 have h := H.evalps hv
 simp only [execOp, List.map_toArray, h, Sem.run_bind, hr, Result.andThen_ok, Sem.run_pure]
theorem r_max {t yt : TypeId} {p q : Int} (H : Fr n l a) (hx : ev l x = some (.int .i64 p)) (hy : ev l y = some (.int .i64 q)) : (execOp a.eval ⟨dst, .call { callee := .builtin .max, args := #[x, y], argTypes := #[t, yt] }, ty, pos, aft, g⟩).run P w = .ok (.value (.int .i64 (max p q))) w := by
 have e : (if q < p then p else q) = max p q := by omega
 have e2 : (if p < q then q else p) = max p q := by omega
 simp [execOp, resolve, invoke, builtin, Builtin.max_, Builtin.max2, H.eval hx, H.eval hy, e, e2]
end
end Go.Proofs.YtdcbjedkddgfkaaGreatDoor
