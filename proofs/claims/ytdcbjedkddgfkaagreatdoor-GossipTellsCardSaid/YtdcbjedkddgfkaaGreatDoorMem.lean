/-
  Words for memory: which blocks may turn ('Only'), a block known whole ('Blk'), slices that read as lists ('SliceOf'), maps that read as association lists ('MapAt'). No condition: definitions and plain lemmas.
-/
import Derived.WalkKit
import Derived.Below
import Derived.Laws.OwnMore
import Derived.Deep.AppendLies
import Derived.Deep.Draws
import Derived.Maps.AppendAt
import Derived.RegionTactic
import Derived.OwnWalk
import Derived.MapKept
import Derived.Lib.Hide
namespace Go.Proofs.YtdcbjedkddgfkaaGreatDoor
set_option linter.unusedVariables false
set_option linter.unusedSimpArgs false
set_option linter.unusedSectionVars false
open Go.RowKit
abbrev Str := List UInt8
abbrev strV (s : Str) : Value := .string ⟨s.toArray⟩
/-- an int of Go -/
def I64 (n : Int) : Prop := -9223372036854775808 ≤ n ∧ n ≤ 9223372036854775807
attribute [go_sem] ByteArray.extract_mk
@[go_sem] theorem append_mk (a b : Str) : (ByteArray.mk a.toArray) ++ (ByteArray.mk b.toArray) = ByteArray.mk (a ++ b).toArray := by
 apply ByteArray.ext
 simp [ByteArray.data_append]
/-! ### Which blocks may turn -/
/-- Only blocks of F, and new ones, differ. -/
structure Only (F : Nat → Prop) (w w' : World) : Prop where
 os : w'.os = w.os
 tape : w'.tape = w.tape
 output : w'.output = w.output
 size : w.heap.size ≤ w'.heap.size
 block : ∀ k, k < w.heap.size → ¬ F k → w'.heap[k]? = w.heap[k]?
def NoF : Nat → Prop := fun _ => False
def orF (F G : Nat → Prop) : Nat → Prop := fun k => F k ∨ G k
def oneF (g : Nat) : Nat → Prop := fun k => k = g
section
variable {F G : Nat → Prop} {a b c w w' : World}
theorem Only.refl (F : Nat → Prop) (w : World) : Only F w w := ⟨rfl, rfl, rfl, Nat.le_refl _, fun _ _ _ => rfl⟩
theorem Only.trans (h : Only F a b) (k : Only G b c) (hG : ∀ i, G i → F i ∨ a.heap.size ≤ i) : Only F a c :=
 ⟨k.os.trans h.os, k.tape.trans h.tape, k.output.trans h.output, Nat.le_trans h.size k.size, fun i hi hn =>
  (k.block i (Nat.lt_of_lt_of_le hi h.size) (fun hg => (hG i hg).elim (fun h1 => hn h1) (fun h1 => by omega))).trans (h.block i hi hn)⟩
theorem Only.trans' (h : Only F a b) (k : Only F b c) : Only F a c := h.trans k fun _ hi => .inl hi
theorem Only.mono (h : Only F a b) (hG : ∀ i, F i → G i) : Only G a b := ⟨h.os, h.tape, h.output, h.size, fun i hi hn => h.block i hi fun hf => hn (hG i hf)⟩
theorem Only.drew (h : Only F a b) : Only F a b.drew := ⟨h.os, h.tape, h.output, h.size, h.block⟩
theorem Only.drewN (h : Only F a b) (n : Nat) : Only F a (b.drewN n) := ⟨h.os, h.tape, h.output, h.size, h.block⟩
theorem Only.alloc (h : Only F a b) (o : Obj) : Only F a (b.alloc o) :=
 ⟨h.os, h.tape, h.output, Nat.le_trans h.size (by simp), fun i hi hn => (Below.heap_alloc b o i (Nat.lt_of_lt_of_le hi h.size)).trans (h.block i hi hn)⟩
theorem Only.grown {row : Option Nat} (h : Only F a b) (hg : b.grownBy c row) (hr : ∀ k, row = some k → F k ∨ a.heap.size ≤ k) : Only F a c :=
 ⟨hg.os.trans h.os, hg.tape.trans h.tape, hg.output.trans h.output, Nat.le_trans h.size hg.size, fun i hi hn =>
  (hg.block i (Nat.lt_of_lt_of_le hi h.size) (fun e => (hr i e.symm).elim (fun h1 => hn h1) (fun h1 => by omega))).trans (h.block i hi hn)⟩
theorem Only.of_below {B : Nat} (h : Below B a b) (hB : a.heap.size ≤ B) : Only F a b := ⟨h.os, h.tape, h.output, h.size, fun i hi _ => h.block i (by omega)⟩
theorem Only.below (h : Only F a b) {B : Nat} (hB : B ≤ a.heap.size) (hF : ∀ i, F i → B ≤ i) : Below B a b :=
 ⟨h.os, h.tape, h.output, h.size, fun i hi => h.block i (by omega) fun hf => by have := hF i hf; omega⟩
theorem Only.cell (h : Only F a b) {p : Addr} (hp : p.block < a.heap.size) (hF : ¬ F p.block) : b.cell? p = a.cell? p := World.cell?_of_block (w := a) (h.block p.block hp hF)
end
/-! ### A block that is known whole -/
def Blk (w : World) (g : Nat) (t : TypeId) (cs : Array Value) : Prop := w.heap[g]? = some (.cells cs t (0, 0))
section
variable {w w' : World} {g : Nat} {t : TypeId} {cs : Array Value}
theorem Blk.lt (h : Blk w g t cs) : g < w.heap.size := by
 rcases Nat.lt_or_ge g w.heap.size with hlt | hge
 · exact hlt
 · unfold Blk at h; rw [Array.getElem?_eq_none hge] at h; cases h
theorem Blk.cell (h : Blk w g t cs) (i : Nat) : w.cell? ⟨g, i, none⟩ = cs[i]? := cell_of_row w g i cs t (0, 0) h
theorem Blk.new (w : World) (t : TypeId) (cs : Array Value) : Blk (w.alloc (.cells cs t)) w.heap.size t cs := heap_alloc_new w _
theorem Blk.drewN (h : Blk w g t cs) (n : Nat) : Blk (w.drewN n) g t cs := h
theorem Blk.only {F : Nat → Prop} (h : Blk w g t cs) (hb : Only F w w') (hg : ¬ F g) : Blk w' g t cs := (hb.block g h.lt hg).trans h
end
/-! ### A slice that reads as cells -/
theorem block_of_add (a : Addr) (n : Nat) : (a.add n).block = a.block := by unfold Addr.add; split <;> rfl
theorem add_of_add (a : Addr) (i j : Nat) : (a.add i).add j = a.add (i + j) := by
 unfold Addr.add
 by_cases hi : i = 0 <;> by_cases hj : j = 0 <;> simp [hi, hj, Nat.add_assoc]
/-- The slice '(A, n, _)' holds the cells xs, in a block of S. -/
def Reads (w : World) (S : Nat → Prop) (size : Nat) (A : Option Addr) (n : Nat) (xs : List Value) : Prop :=
 xs.length = n * size ∧ (0 < n → ∃ ad, A = some ad ∧ S ad.block ∧ ad.block < w.heap.size ∧ ∀ j u, xs[j]? = some u → w.cell? (ad.add j) = some u)
section
variable {w w' : World} {S S' : Nat → Prop} {size n : Nat} {A : Option Addr} {xs : List Value}
theorem Reads.none_ : Reads w S size A 0 [] := ⟨by simp, fun h => absurd h (by omega)⟩
/-- where there is an element: the address written out -/
theorem Reads.form (h : Reads w S size A n xs) (hn : 0 < n) (hs : 0 < size) :
 ∃ b off, A = some ⟨b, off, none⟩ ∧ S b ∧ b < w.heap.size ∧ ∀ j u, xs[j]? = some u → w.cell? ⟨b, off + j, none⟩ = some u := by
 obtain ⟨⟨b, off, sp⟩, e, hS, hlt, hc⟩ := h.2 hn
 have hl : 0 < xs.length := by rw [h.1]; exact Nat.mul_pos hn hs
 have h0 := hc 0 xs[0] (List.getElem?_eq_getElem hl)
 have hsp : sp = none := by simpa [Addr.add] using World.cell?_spot h0
 subst hsp
 exact ⟨b, off, e, hS, hlt, fun j u hu => by have := hc j u hu; rwa [Addr.add_lit] at this⟩
theorem Reads.keep (h : Reads w S size A n xs) (hw : w.heap.size ≤ w'.heap.size) (hk : ∀ p : Addr, S p.block → p.block < w.heap.size → w'.cell? p = w.cell? p) : Reads w' S size A n xs :=
 ⟨h.1, fun hn => by
  obtain ⟨ad, e, hS, hlt, hc⟩ := h.2 hn
  exact ⟨ad, e, hS, by omega, fun j u hu => (hk _ (by rw [block_of_add]; exact hS) (by rw [block_of_add]; exact hlt)).trans (hc j u hu)⟩⟩
theorem Reads.sup (h : Reads w S size A n xs) (hS : ∀ k, S k → S' k) : Reads w S' size A n xs :=
 ⟨h.1, fun hn => by
  obtain ⟨ad, e, h1, hlt, hc⟩ := h.2 hn
  exact ⟨ad, e, hS _ h1, hlt, hc⟩⟩
theorem Reads.only {F : Nat → Prop} (h : Reads w S size A n xs) (ho : Only F w w') (hF : ∀ k, S k → ¬ F k) : Reads w' S size A n xs :=
 h.keep ho.size fun _ hp hl => ho.cell hl (hF _ hp)
theorem Reads.cut (h : Reads w S size A n xs) {k cap : Nat} (hk : k ≤ n) (hc : n ≤ cap) :
 Reads w S size (if cap = k then A else A.map (·.add (k * size))) (n - k) (xs.drop (k * size)) := by
 refine ⟨by rw [List.length_drop, h.1, Nat.sub_mul], fun hn => ?_⟩
 obtain ⟨ad, rfl, hS, hlt, hcell⟩ := h.2 (by omega)
 rw [if_neg (by omega)]
 refine ⟨ad.add (k * size), rfl, by rw [block_of_add]; exact hS, by rw [block_of_add]; exact hlt, fun j u hu => ?_⟩
 rw [add_of_add]
 exact hcell _ u (by rw [← hu, List.getElem?_drop])
theorem Reads.take_ (h : Reads w S size A n xs) {k : Nat} (hk : k ≤ n) : Reads w S size A k (xs.take (k * size)) := by
 refine ⟨by rw [List.length_take, h.1]; exact Nat.min_eq_left (Nat.mul_le_mul_right _ hk), fun hn => ?_⟩
 obtain ⟨ad, rfl, hS, hlt, hcell⟩ := h.2 (by omega)
 refine ⟨ad, rfl, hS, hlt, fun j u hu => hcell j u ?_⟩
 rw [List.getElem?_take] at hu
 split at hu
 · exact hu
 · cases hu
theorem Reads.of_own {base : Nat} {e : TypeId} {v : Value} (h : w.ownsRow base e size v n xs) : ∃ A c, v = .slice A n c ∧ n ≤ c ∧ c ≤ maxLen ∧ Reads w (fun k => v.ownBlock = some k) size A n xs := by
 obtain ⟨h1, h2⟩ := h
 rcases h2 with ⟨rfl, rfl⟩ | ⟨g, cap, cur, rfl, _, hg, hnc, hcm, hcs, ht⟩
 · exact ⟨none, 0, rfl, Nat.le_refl _, Nat.zero_le _, h1, fun hn => absurd hn (by omega)⟩
 · refine ⟨_, cap, rfl, hnc, hcm, h1, fun _ => ⟨_, rfl, rfl, (Array.getElem?_eq_some_iff.1 hg).1, ?_⟩⟩
   exact World.ownsRow.cells (base := 0) (e := e) (size := size) (v := .slice (some ⟨g, 0, none⟩) n cap) (n := n) ⟨h1, .inr ⟨g, cap, cur, rfl, Nat.zero_le _, hg, hnc, hcm, hcs, ht⟩⟩ rfl
end
/-! ### A slice that reads as a list -/
/-- The value v is a slice whose elements, 'size' cells each, read as the list l; its own cells lie in S; R says what an element's cells read as. -/
def SliceOf {α : Type} (S : Nat → Prop) (size : Nat) (R : World → List Value → α → Prop) (w : World) (v : Value) (l : List α) : Prop :=
 ∃ A cap xs, v = .slice A l.length cap ∧ l.length ≤ cap ∧ cap ≤ maxLen ∧ Reads w S size A l.length xs ∧ ∀ i x, l[i]? = some x → R w ((xs.drop (i * size)).take size) x
section
variable {α : Type} {w w' : World} {S S' : Nat → Prop} {size : Nat} {R R' : World → List Value → α → Prop} {v : Value} {l : List α}
theorem SliceOf.nil_ (R : World → List Value → α → Prop) (size : Nat) (w : World) : SliceOf S size R w (.slice none 0 0) ([] : List α) :=
 ⟨none, 0, [], rfl, Nat.le_refl _, Nat.zero_le _, Reads.none_, fun i x h => by simp at h⟩
theorem SliceOf.keep (h : SliceOf S size R w v l) (hw : w.heap.size ≤ w'.heap.size) (hk : ∀ p : Addr, S p.block → p.block < w.heap.size → w'.cell? p = w.cell? p) (hR : ∀ cs x, x ∈ l → R w cs x → R' w' cs x) : SliceOf S size R' w' v l := by
 obtain ⟨A, cap, xs, e, h1, h2, h3, h4⟩ := h
 exact ⟨A, cap, xs, e, h1, h2, h3.keep hw hk, fun i x hx => hR _ _ (List.mem_of_getElem? hx) (h4 i x hx)⟩
theorem SliceOf.sup (h : SliceOf S size R w v l) (hS : ∀ k, S k → S' k) : SliceOf S' size R w v l := by
 obtain ⟨A, cap, xs, e, h1, h2, h3, h4⟩ := h
 exact ⟨A, cap, xs, e, h1, h2, h3.sup hS, h4⟩
theorem SliceOf.only {F : Nat → Prop} (h : SliceOf S size R w v l) (ho : Only F w w') (hF : ∀ k, S k → ¬ F k) (hR : ∀ cs x, x ∈ l → R w cs x → R' w' cs x) : SliceOf S size R' w' v l :=
 h.keep ho.size (fun _ hp hl => ho.cell hl (hF _ hp)) hR
theorem SliceOf.len (h : SliceOf S size R w v l) : l.length ≤ maxLen := by
 obtain ⟨A, cap, xs, _, h1, h2, _⟩ := h
 omega
/-- of a slice that is not empty: the address, once for all elements -/
theorem SliceOf.form (h : SliceOf S size R w v l) (hs : 0 < size) (hl : 0 < l.length) :
 ∃ b off cap, v = .slice (some ⟨b, off, none⟩) l.length cap ∧ l.length ≤ cap ∧ cap ≤ maxLen ∧ S b ∧ b < w.heap.size ∧ ∀ i x, l[i]? = some x → ∃ cs, R w cs x ∧ ∀ j u, cs[j]? = some u → w.cell? ⟨b, off + i * size + j, none⟩ = some u := by
 obtain ⟨A, cap, xs, rfl, h1, h2, h3, h4⟩ := h
 obtain ⟨b, off, rfl, hS, hlt, hc⟩ := h3.form hl hs
 refine ⟨b, off, cap, rfl, h1, h2, hS, hlt, fun i x hx => ⟨_, h4 i x hx, fun j u hu => ?_⟩⟩
 rw [Nat.add_assoc]
 refine hc _ u ?_
 rw [List.getElem?_take] at hu
 split at hu
 · rwa [List.getElem?_drop] at hu
 · cases hu
theorem SliceOf.shape (h : SliceOf S size R w v l) : ∃ A cap, v = .slice A l.length cap ∧ l.length ≤ cap ∧ cap ≤ maxLen := by
 obtain ⟨A, cap, xs, e, h1, h2, _⟩ := h
 exact ⟨A, cap, e, h1, h2⟩
theorem SliceOf.of_own {base : Nat} {e : TypeId} {xs : List Value} (h : w.ownsRow base e size v l.length xs) (hR : ∀ i x, l[i]? = some x → R w ((xs.drop (i * size)).take size) x) :
 SliceOf (fun k => v.ownBlock = some k) size R w v l := by
 obtain ⟨A, c, e, h1, h2, h3⟩ := Reads.of_own h
 exact ⟨A, c, xs, e, h1, h2, h3, hR⟩
end
/-- one int -/
def RInt (_ : World) (cs : List Value) (n : Int) : Prop := cs = [.int .i64 n] ∧ I64 n
/-- one string -/
def RStr (_ : World) (cs : List Value) (s : Str) : Prop := cs = [strV s] ∧ s.length ≤ maxLen
abbrev Ints (S : Nat → Prop) (w : World) (v : Value) (l : List Int) : Prop := SliceOf S 1 RInt w v l
abbrev Strs (S : Nat → Prop) (w : World) (v : Value) (l : List Str) : Prop := SliceOf S 1 RStr w v l
theorem Ints.only {S F : Nat → Prop} {w w' : World} {v : Value} {l : List Int} (h : Ints S w v l) (ho : Only F w w') (hF : ∀ k, S k → ¬ F k) : Ints S w' v l := SliceOf.only h ho hF fun _ _ _ h => h
theorem Strs.only {S F : Nat → Prop} {w w' : World} {v : Value} {l : List Str} (h : Strs S w v l) (ho : Only F w w') (hF : ∀ k, S k → ¬ F k) : Strs S w' v l := SliceOf.only h ho hF fun _ _ _ h => h
/-! ### append, the source nil, empty or not -/
section
variable {P : Program} (w : World)
theorem run_append_of_nil (base : Nat) (t ty e : TypeId) (i : TypeInfo) (size : Nat) (ht : P.underlying t = some (.slice e)) (hi : P.info? e = some i)
 (v : Value) (n : Nat) (xs : List Value) (hown : w.ownsRow base e size v n xs) (c : Nat) : (Builtin.append_ #[t, t] ty #[v, .slice none 0 c]).run P w = .ok v w := by
 rcases hown.2 with ⟨rfl, rfl⟩ | ⟨g, cap, cur, rfl, _, _, hnc, _⟩
 · simp [Builtin.append_, run_underlying ht, sizeOf, typeInfo, hi, Builtin.lenOf, Builtin.firstCells]
 · simp [Builtin.append_, run_underlying ht, sizeOf, typeInfo, hi, Builtin.lenOf, Builtin.firstCells, hnc, storeCells]
theorem run_append_any (base : Nat) (t ty e : TypeId) (i : TypeInfo) (z : Value) (size bytes : Nat) (ht : P.underlying t = some (.slice e)) (hi : P.info? e = some i) (hz : i.zero = some z)
 (hsize : i.size = size) (hby : i.bytes = bytes) (hzs : z.cells.size = size) (hsz : 0 < size)
 (v : Value) (n : Nat) (xs : List Value) (hown : w.ownsRow base e size v n xs)
 (S : Nat → Prop) (A : Option Addr) (m c : Nat) (news : List Value) (hr : Reads w S size A m news) (h1 : ∀ u ∈ news, u.oneCell' = true)
 (h63 : n + m ≤ maxLen) (hbytes : (n + m) * bytes ≤ 140737488355328) (hbase : base ≤ w.heap.size) :
 ∃ v' w', (Builtin.append_ #[t, t] ty #[v, .slice A m c]).run P w = .ok v' w' ∧ w'.ownsRow base e size v' (n + m) (xs ++ news) ∧ w.grownBy w' v.ownBlock ∧
  (v'.ownBlock = v.ownBlock ∨ v'.ownBlock = some w.heap.size) := by
 rcases A with _ | ad
 · have hm : m = 0 := by
    rcases Nat.eq_zero_or_pos m with h0 | h0
    · exact h0
    · obtain ⟨ad, h, _⟩ := hr.2 h0
      cases h
   subst hm
   have hn : news = [] := List.eq_nil_of_length_eq_zero (by simpa using hr.1)
   subst hn
   exact ⟨v, w, run_append_of_nil w base t ty e i size ht hi v n xs hown c, by simpa using hown, World.grownBy.refl w _, .inl rfl⟩
 · have hcells : ∀ j u, news[j]? = some u → w.cell? (ad.add j) = some u := by
    intro j u hu
    rcases Nat.eq_zero_or_pos m with h0 | h0
    · subst h0
      have hn : news = [] := List.eq_nil_of_length_eq_zero (by simpa using hr.1)
      subst hn
      simp at hu
    · obtain ⟨ad', h, _, _, hc⟩ := hr.2 h0
      injection h with h
      subst h
      exact hc j u hu
   obtain ⟨v', w', hrun, h2, h3, _, h5⟩ := run_append_own_at (P := P) w base t ty e i z size bytes ht hi hz hsize hby hzs hsz v n xs hown ad m c news hr.1 hcells h1 h63 hbytes hbase
   exact ⟨v', w', hrun, h2, h3, h5⟩
theorem wp_append_any {o : Oper} {a : Act} {K : Act → World → Prop} {Q : Exit → Act → World → Prop} (s x : Operand) (t : TypeId)
 (ho : o.op = .call { callee := .builtin .append, args := #[s, x], argTypes := #[t, t] })
 (base : Nat) (e : TypeId) (i : TypeInfo) (z : Value) (size bytes : Nat) (ht : P.underlying t = some (.slice e)) (hi : P.info? e = some i) (hz : i.zero = some z)
 (hsize : i.size = size) (hby : i.bytes = bytes) (hzs : z.cells.size = size) (hsz : 0 < size)
 (v : Value) (n : Nat) (xs : List Value) (hs : a.eval s = v) (hown : w.ownsRow base e size v n xs)
 (S : Nat → Prop) (A : Option Addr) (m c : Nat) (news : List Value) (hx : a.eval x = .slice A m c) (hr : Reads w S size A m news) (h1 : ∀ u ∈ news, u.oneCell' = true)
 (h63 : n + m ≤ maxLen) (hbytes : (n + m) * bytes ≤ 140737488355328) (hbase : base ≤ w.heap.size)
 (h : ∀ v' w', w'.ownsRow base e size v' (n + m) (xs ++ news) → w.grownBy w' v.ownBlock → (v'.ownBlock = v.ownBlock ∨ v'.ownBlock = some w.heap.size) → K (a.put o.dst v') w') : o.wp P a w K Q := by
 obtain ⟨v', w', hrun, h2, h3, h4⟩ := run_append_any (P := P) w base t o.type e i z size bytes ht hi hz hsize hby hzs hsz v n xs hown S A m c news hr h1 h63 hbytes hbase
 unfold Oper.wp execOp
 simp only [ho, resolve, invoke, builtin, Sem.run_bind, Sem.run_pure, Result.andThen_ok, List.map_toArray, List.map_cons, List.map_nil, hs, hx, hrun]
 exact h v' w' h2 h3 h4
theorem wpList_append_any {ops : Array Oper} {rest : List Oper} {o : Oper} {a : Act} {Q : Exit → Act → World → Prop} (hgd : o.guard = none) (s x : Operand) (t : TypeId)
 (ho : o.op = .call { callee := .builtin .append, args := #[s, x], argTypes := #[t, t] })
 (base : Nat) (e : TypeId) (i : TypeInfo) (z : Value) (size bytes : Nat) (ht : P.underlying t = some (.slice e)) (hi : P.info? e = some i) (hz : i.zero = some z)
 (hsize : i.size = size) (hby : i.bytes = bytes) (hzs : z.cells.size = size) (hsz : 0 < size)
 (v : Value) (n : Nat) (xs : List Value) (hs : a.eval s = v) (hown : w.ownsRow base e size v n xs)
 (S : Nat → Prop) (A : Option Addr) (m c : Nat) (news : List Value) (hx : a.eval x = .slice A m c) (hr : Reads w S size A m news) (h1 : ∀ u ∈ news, u.oneCell' = true)
 (h63 : n + m ≤ maxLen) (hbytes : (n + m) * bytes ≤ 140737488355328) (hbase : base ≤ w.heap.size)
 (h : ∀ v' w', w'.ownsRow base e size v' (n + m) (xs ++ news) → w.grownBy w' v.ownBlock → (v'.ownBlock = v.ownBlock ∨ v'.ownBlock = some w.heap.size) → wpList P ops Q rest (a.put o.dst v') w') : wpList P ops Q (o :: rest) a w :=
 wpList_plain hgd fun _ hK => wp_append_any w s x t ho base e i z size bytes ht hi hz hsize hby hzs hsz v n xs hs hown S A m c news hx hr h1 h63 hbytes hbase fun v' w' h2 h3 h4 => hK _ _ (h v' w' h2 h3 h4)
end
/-! ### Maps as association lists (key, element, stamp), in the order of their coming -/
section
variable {κ β : Type}
def entOf (ke : κ → Value) (ve : β → Value) (x : κ × β × Nat) : MapEntry := { key := ke x.1, val := ve x.2.1, born := x.2.2 }
/-- block r is a map that holds just these -/
def MapAt (ke : κ → Value) (ve : β → Value) (w : World) (r : Nat) (l : List (κ × β × Nat)) (clock : Nat) : Prop :=
 w.heap[r]? = some (.map (l.map (entOf ke ve)).toArray clock)
variable [DecidableEq κ]
variable {P : Program} {K : TypeId} {ke : κ → Value} {ve : β → Value}
variable {w : World} {r clock : Nat} {l : List (κ × β × Nat)} {T E : TypeId}
/-- 'm[k] = v': the heap behind it -/
def World.putMap (w : World) (r : Nat) (o : Obj) : World := { w with heap := w.heap.setIfInBounds r o }
theorem heap_lt {w : World} {r : Nat} {o : Obj} (h : w.heap[r]? = some o) : r < w.heap.size := (Array.getElem?_eq_some_iff.1 h).1
omit [DecidableEq κ] in
theorem MapAt.put (hm : MapAt ke ve w r l clock) (l' : List (κ × β × Nat)) (c' : Nat) : MapAt ke ve (World.putMap w r (.map (l'.map (entOf ke ve)).toArray c')) r l' c' := by
 have := heap_lt hm
 simp [MapAt, World.putMap, this]
omit [DecidableEq κ] in
theorem MapAt.only {F : Nat → Prop} {w' : World} (hm : MapAt ke ve w r l clock) (ho : Only F w w') (hF : ¬ F r) : MapAt ke ve w' r l clock := (ho.block r (heap_lt hm) hF).trans hm
end
section
variable {κ β : Type} [DecidableEq κ] {P : Program} {K : TypeId} {ke : κ → Value} {ve : β → Value} {w : World} {r clock : Nat} {l : List (κ × β × Nat)} {T E : TypeId}
end
theorem Only.putMap {F : Nat → Prop} {a b : World} (h : Only F a b) {r : Nat} (hr : F r ∨ a.heap.size ≤ r) (o : Obj) : Only F a (World.putMap b r o) :=
 ⟨h.os, h.tape, h.output, by simpa [World.putMap] using h.size, fun i hi hn => by
  have hne : i ≠ r := by
   rintro rfl
   rcases hr with hr | hr
   · exact hn hr
   · omega
  have : (World.putMap b r o).heap[i]? = b.heap[i]? := by simp [World.putMap, Ne.symm hne]
  exact this.trans (h.block i hi hn)⟩
theorem Blk.putMap {w : World} {g r : Nat} {t : TypeId} {cs : Array Value} (h : Blk w g t cs) (hr : g ≠ r) (o : Obj) : Blk (World.putMap w r o) g t cs := by
 unfold Blk at h ⊢
 simpa [World.putMap, Ne.symm hr] using h
end Go.Proofs.YtdcbjedkddgfkaaGreatDoor
