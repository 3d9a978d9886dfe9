/-
  Rows that a call makes and stores into, element by element. No condition beyond those that each lemma names.
-/
import Derived.Test.YtdcbjedkddgfkaaGreatDoorSx
import Derived.Laws.MakeOwn
namespace Go.Proofs.YtdcbjedkddgfkaaGreatDoor
set_option linter.unusedVariables false
set_option linter.unusedSimpArgs false
set_option linter.unusedSectionVars false
open Go.RowKit
theorem flat_setQ {α : Type} (K : Row α) : ∀ {l : List α} {k : Nat} (x : α), k < l.length → splice (l.flatMap K.cells) (k * K.size) (K.cells x) = (l.set k x).flatMap K.cells
 | [], k, x, h => absurd h (Nat.not_lt_zero _)
 | y :: r, 0, x, h => by
  unfold splice
  rw [Nat.zero_mul, List.take_zero, List.nil_append, List.set_cons_zero, List.flatMap_cons, List.flatMap_cons, Nat.zero_add, List.drop_append, List.drop_of_length_le (by rw [K.hlen, K.hlen]; exact Nat.le_refl _), List.nil_append, K.hlen, K.hlen, Nat.sub_self, List.drop_zero]
 | y :: r, k + 1, x, h => by
  have ih := flat_setQ K (l := r) (k := k) x (by simpa using h)
  rw [List.set_cons_succ, List.flatMap_cons, List.flatMap_cons, ← ih]
  unfold splice
  have e : (k + 1) * K.size = K.size + k * K.size := by rw [Nat.succ_mul, Nat.add_comm]
  rw [List.take_append, List.drop_append, K.hlen, K.hlen, List.take_of_length_le (by rw [K.hlen, e]; omega), List.drop_of_length_le (by rw [K.hlen, e]; omega), List.nil_append, e, Nat.add_sub_cancel_left, show K.size + k * K.size + K.size - K.size = k * K.size + K.size by omega]
  simp only [List.append_assoc]
section
variable {α : Type} {P : Program} {w : World} {t e : TypeId} {base c k : Nat} {u : Value} {A : Option Addr} {l : List α} {x : α}
theorem row_stE (K : Row α) (hS : ∀ w, (sizeOf t).run P w = .ok K.size w) (hu : u.cells = (K.cells x).toArray) {n0 : Nat} (hown : w.ownsRow base e K.size (.slice A n0 c) n0 (l.flatMap K.cells)) (hl0 : l.length = n0) (hk : k < n0) :
 ∃ w', (Instr.storeAt t (.pointer (some (eA A K.size k))) u).run P w = .ok () w' ∧ Only (ownF (.slice A n0 c)) w w' ∧ w'.ownsRow base e K.size (.slice A n0 c) n0 ((l.set k x).flatMap K.cells) := by
 subst hl0
 rw [← flat_setQ K x hk]
 have hone : AllOne (K.cells x) := by
  have := K.one x
  generalize K.cells x = vs at this
  induction vs with
  | nil => trivial
  | cons v r ih => exact ⟨this v List.mem_cons_self, ih fun u hu => this u (List.mem_cons_of_mem _ hu)⟩
 have hln := K.hlen x
 have hfl := flat_len K l
 generalize hxs : l.flatMap K.cells = xs at hown hfl ⊢
 generalize hvs : K.cells x = vs at hu hone hln ⊢
 generalize hn : l.length = n' at *
 generalize hz : K.size = size at *
 obtain ⟨hl, ⟨_, e0⟩ | ⟨g, cap, cur, hv', hb, hh, hnc, hcm, hcs, ht⟩⟩ := hown
 · omega
 · injection hv' with hv1 _ hv2
   subst hv1 hv2
   have hq : eA (some ⟨g, 0, none⟩) size k = ⟨g, k * size, none⟩ := by
    show (⟨g, 0, none⟩ : Addr).add (k * size) = _
    rw [Addr.add_lit]; simp
   have hb1 : (k + 1) * size ≤ n' * size := Nat.mul_le_mul_right _ hk
   have hb2 : n' * size ≤ c * size := Nat.mul_le_mul_right _ hnc
   have hb3 : (k + 1) * size = k * size + size := Nat.succ_mul k size
   have hcl : cur.toList.length = c * size := by rw [Array.length_toList]; exact hcs
   rw [hq]
   obtain ⟨w', hr, ho, hB⟩ := run_store (P := P) (t := t) (e := e) (g := g) (off := k * size) (m := size) (cs := cur.toList) (vs := vs) hS hu (by rw [hln]; exact beq_self_eq_true _) hone (by simpa [Blk] using hh) (by rw [Nat.ble_eq, hcl, hln]; omega) rfl
   have hl1 : (splice cur.toList (k * size) vs).length = cur.toList.length := length_splice (by rw [hcl, hln]; omega)
   have hF : (oneF g) = ownF (.slice (some ⟨g, 0, none⟩) n' c) := by
    funext x
    unfold oneF ownF Value.ownBlock
    simp [eq_comm]
   have hl2 : (splice xs (k * size) vs).length = xs.length := length_splice (by rw [hfl, hln]; omega)
   refine ⟨w', hr, by rw [← hF]; exact ho, by rw [hl2]; exact hl, .inr ⟨g, c, _, rfl, hb, hB, hnc, hcm, by rw [List.size_toArray, hl1]; exact hcl, ?_⟩⟩
   have ht' : xs = cur.toList.take (n' * size) := ht.symm
   show (splice cur.toList (k * size) vs).take (n' * size) = splice xs (k * size) vs
   rw [ht']
   unfold splice
   rw [List.take_take, Nat.min_eq_left (by omega), List.append_assoc, List.append_assoc, List.take_append, List.length_take, Nat.min_eq_left (by omega), List.take_take, Nat.min_eq_right (by omega)]
   congr 1
   rw [List.take_append, List.take_of_length_le (by rw [hln]; omega), List.drop_take]
   congr 2
   rw [hln]; omega
end
section
variable {α : Type} {P : Program} {ops : Array Oper} {Q : Exit → Act → World → Prop} {rest : List Oper} {a : Act} {w w1 w' : World} {n : Nat} {l : List (Nat × Value)} {ty : TypeId} {pos : String} {aft : Array Edge} {p y : Operand} {t e : TypeId} {base c k : Nat} {u : Value} {q : Addr} {A : Option Addr} {L : List α} {x : α} {z : Int}
theorem LStQ (K : Row α) (hS : ∀ w, (sizeOf t).run P w = .ok K.size w) (H : Fr n l a) (hx : ev l p = some (.pointer (some q))) (hq : q = eA A K.size k) (hy : ev l y = some u) (hu : u.cells = (K.cells x).toArray) {n0 : Nat} (hown : w.ownsRow base e K.size (.slice A n0 c) n0 (L.flatMap K.cells)) (hl0 : L.length = n0) (hk : k < n0)
 (h : ∀ w', Only (ownF (.slice A n0 c)) w w' → w'.ownsRow base e K.size (.slice A n0 c) n0 ((L.set k x).flatMap K.cells) → wpList P ops Q rest a w') :
 wpList P ops Q (⟨none, .store t p y, ty, pos, aft, none⟩ :: rest) a w := by
 subst hq
 obtain ⟨w', hr, h2, h3⟩ := row_stE (P := P) K hS hu hown hl0 hk
 refine LS (w' := w') ?_ (h w' h2 h3)
 simp only [execOp, H.eval hx, H.eval hy, Sem.run_bind, hr, Result.andThen_ok, Sem.run_pure]
theorem Pl.MSSQ {F : Nat → Prop} {m kk i : Nat} {T : List Nat} {r : Plan} (K : Row α) (hS : ∀ w, (sizeOf t).run P w = .ok K.size w) (H : Fr n l a) (ho : ops[i]? = some ⟨none, .store t p y, ty, pos, aft, none⟩) (hx : ev l p = some (.pointer (some q))) (hq : q = eA A K.size k) (hy : ev l y = some u) (hu : u.cells = (K.cells x).toArray) {n0 : Nat} (hown : w.ownsRow base e K.size (.slice A n0 c) n0 (L.flatMap K.cells)) (hl0 : L.length = n0) (hk : k < n0)
 (h : ∀ w', Only (ownF (.slice A n0 c)) w w' → w'.ownsRow base e K.size (.slice A n0 c) n0 ((L.set k x).flatMap K.cells) → SK F m w1 (kk + 1) w' ∧ wpPl P ops Q (SK F m w1) T (kk + 1) r a w') :
 wpPl P ops Q (SK F m w1) T kk (.ex i r) a w := by
 subst hq
 obtain ⟨w', hr, h2, h3⟩ := row_stE (P := P) K hS hu hown hl0 hk
 refine wpPl_do ho rfl ?_
 have hr' : (execOp a.eval ⟨none, .store t p y, ty, pos, aft, none⟩).run P w = .ok .skip w' := by
  simp only [execOp, H.eval hx, H.eval hy, Sem.run_bind, hr, Result.andThen_ok, Sem.run_pure]
 simp only [Oper.wp, hr']
 obtain ⟨h4, h5⟩ := h w' h2 h3
 exact ⟨h4, h5⟩
theorem Row.madeN (K : Row α) {e : TypeId} {l : List α} {m : Nat} (h : l.length = m) (hl : m ≤ maxLen) : ∃ A w', w' = w.alloc (.cells (l.flatMap K.cells).toArray e) ∧ A = some ⟨w.heap.size, 0, none⟩ ∧ w'.ownsRow w.heap.size e K.size (.slice A m m) m (l.flatMap K.cells) ∧ Only NoF w w' := by
 subst h
 exact Row.made K l hl
theorem Row.ownN (K : Row α) {n0 : Nat} (h : w.ownsRow base e K.size (.slice A n0 c) n0 (L.flatMap K.cells)) (hl : L.length = n0) (ho : ∀ z ∈ L, K.ok z) : SliceOf (geB base) K.size K.R w (.slice A n0 c) L := by
 subst hl
 exact Row.own K h ho
theorem set_ok {p : α → Prop} (h : ∀ z ∈ L, p z) (hx : p x) : ∀ z ∈ L.set k x, p z := fun z hz => (List.mem_or_eq_of_mem_set hz).elim (h z) fun e => e ▸ hx
/-- a made row, each element a single cell -/
theorem r_mk1 {dst : Option Tmp} {g : Option (Nat × Bool)} {v : Value} {b m : Nat} (K : Row α) (hu : P.underlying t = some (.slice e)) (hi : (P.info? e).map (fun i => (i.zero, i.size, i.bytes)) = some (some v, 1, b)) (hb : b ≤ 64) (hv : v.cells = [v].toArray) (hK : K.cells x = [v]) (hz : z = ((m : Nat) : Int)) (H : Fr n l a) (hx : ev l p = some (.int .i64 z)) (hy : ev l y = some (.int .i64 z)) (hn : m ≤ 1000000000) :
 (execOp a.eval ⟨dst, .makeSlice t p y, ty, pos, aft, g⟩).run P w = .ok (.value (.slice (some ⟨w.heap.size, 0, none⟩) m m)) (w.alloc (.cells ((List.replicate m x).flatMap K.cells).toArray e)) := by
 subst hz
 obtain ⟨i, hi, hz0, hz1, hz2⟩ := info_parts hi
 have h64 : (b : Int) * (m : Int) ≤ 64 * (m : Int) := Int.mul_le_mul_of_nonneg_right (by omega) (by omega)
 have := run_make (P := P) w t e i _ hu hi hz0 .i64 .i64 ((m : Nat) : Int) ((m : Nat) : Int) (by omega) (by omega) (by rw [hz2]; omega) (by omega)
 rw [hz1] at this
 have e1 : madeCells v.cells (m * 1) = ((List.replicate m x).flatMap K.cells).toArray := by
  rw [Nat.mul_one, hv]; unfold madeCells
  have e1 : ∀ i : Nat, [v].toArray[i % [v].toArray.size]! = v := fun i => by
   show #[v][i % 1]! = v
   rw [Nat.mod_one]; rfl
  rw [show ((fun i => [v].toArray[i % [v].toArray.size]!) : Nat → Value) = fun _ => v from funext e1]
  apply Array.ext'
  have e2 : (List.replicate m x).flatMap K.cells = List.replicate m v := by
   clear hn h64 this hx hy
   induction m with
   | zero => rfl
   | succ m ih => rw [List.replicate_succ, List.flatMap_cons, ih, hK]; rfl
  rw [e2]
  simp
  rw [List.map_const', List.length_range]
 simp only [execOp, H.eval hx, H.eval hy, this, Int.toNat_natCast, e1, Sem.run_bind, Result.andThen_ok, Sem.run_pure]
end
end Go.Proofs.YtdcbjedkddgfkaaGreatDoor
