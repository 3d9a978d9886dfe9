/-
  Rows of bytes: made, copied into, appended to, turned into strings. No condition beyond sizes.
-/
import Derived.Test.YtdegmpigkgkafaaGreatDoorMem
import Derived.Lib.LazyBuf
import Derived.Laws.IdiomStrings
import Derived.ArgAppend
namespace Go.Proofs.YtdegmpigkgkafaaGreatDoor
set_option linter.unusedVariables false
set_option linter.unusedSimpArgs false
set_option linter.unusedSectionVars false
open Go.RowKit
def bcells (s : Str) : List Value := s.map fun x => .int .u8 (x.toNat : Int)
theorem length_bcells (s : Str) : (bcells s).length = s.length := by simp [bcells]
/-- block g has 'cap' cells that may be written; the first ones hold the bytes l -/
structure ByteRow (w : World) (g cap : Nat) (l : Str) : Prop where
 len : l.length ≤ cap
 max : cap ≤ maxLen
 lt : g < w.heap.size
 some_ : ∀ j, j < cap → (w.cell? ⟨g, j, none⟩).isSome = true
 free : ∀ j, j < cap → w.frozen? ⟨g, j, none⟩ = false
 holds : ∀ (j : Nat) (x : UInt8), l[j]? = some x → w.cell? ⟨g, j, none⟩ = some (.int .u8 (x.toNat : Int))
section
variable {w w' : World} {g cap : Nat} {l : Str}
theorem ByteRow.only {F : Nat → Prop} (h : ByteRow w g cap l) (ho : Only F w w') (hF : ¬ F g) : ByteRow w' g cap l :=
 { h with
  lt := Nat.lt_of_lt_of_le h.lt ho.size
  some_ := fun j hj => by rw [ho.cell (p := ⟨g, j, none⟩) h.lt hF]; exact h.some_ j hj
  free := fun j hj => by rw [ho.frozen (p := ⟨g, j, none⟩) h.lt hF]; exact h.free j hj
  holds := fun j x hx => by rw [ho.cell (p := ⟨g, j, none⟩) h.lt hF]; exact h.holds j x hx }
theorem ByteRow.alloc (h : ByteRow w g cap l) (o : Obj) : ByteRow (w.alloc o) g cap l := h.only ((Only.refl NoF w).alloc o) id
theorem only_setCells {F : Nat → Prop} {a : World} (b : Nat) (hb : F b ∨ a.heap.size ≤ b) : ∀ (vs : List Value) (o : Nat) {w : World}, Only F a w → Only F a (w.setCells b o vs)
 | [], _, _, h => h
 | v :: r, o, _, h => only_setCells b hb r (o + 1) (h.setCell (p := ⟨b, o, none⟩) hb v)
theorem isSome_setCells_ (b : Nat) : ∀ (vs : List Value) (o : Nat) (w : World) (x : Addr), (w.cell? x).isSome = true → ((w.setCells b o vs).cell? x).isSome = true
 | [], _, _, _, h => h
 | v :: r, o, w, x, h => isSome_setCells_ b r (o + 1) _ x (by
  by_cases e : (⟨b, o, none⟩ : Addr) = x
  · subst e
    obtain ⟨u, hu⟩ := Option.isSome_iff_exists.1 h
    rw [World.cell?_setCell_same _ _ _ hu]
    rfl
  · rw [World.cell?_setCell_other _ _ _ _ e]
    exact h)
/-- bytes stored from place o on -/
theorem ByteRow.store (h : ByteRow w g cap l) (o : Nat) (t : Str) (l' : Str) (hl : l'.length ≤ cap) (ho : o + t.length ≤ cap)
 (hin : ∀ j, j < t.length → l'[o + j]? = t[j]?) (hout : ∀ (j : Nat) (x : UInt8), (j < o ∨ o + t.length ≤ j) → l'[j]? = some x → l[j]? = some x) : ByteRow (w.setCells g o (bcells t)) g cap l' where
 len := hl
 max := h.max
 lt := by
  have := (only_setCells (F := oneF g) (a := w) g (.inl rfl) (bcells t) o (Only.refl _ _)).size
  have := h.lt
  omega
 some_ := fun j hj => isSome_setCells_ _ _ _ _ _ (h.some_ j hj)
 free := fun j hj => by rw [World.frozen?_setCells]; exact h.free j hj
 holds := fun j x hx => by
  by_cases hj : j < o ∨ o + t.length ≤ j
  · rw [World.cell?_setCells_out g (bcells t) o w ⟨g, j, none⟩ (fun _ _ => by rw [length_bcells]; exact hj)]
    exact h.holds j x (hout j x hj hx)
  · obtain ⟨i, rfl⟩ : ∃ i, j = o + i := ⟨j - o, by omega⟩
    have hi : i < t.length := by omega
    rw [World.cell?_setCells_in g (bcells t) o w (fun k hk => h.some_ _ (by rw [length_bcells] at hk; omega)) i (by rw [length_bcells]; exact hi)]
    have e := hin i hi
    rw [hx] at e
    have e2 := (List.getElem?_eq_some_iff.1 e.symm).2
    simp [bcells, e2]
theorem ByteRow.str (h : ByteRow w g cap l) {P : Program} {src dst e : TypeId} (c : Nat) (hs : P.underlying src = some (.slice e)) (he : P.underlying e = some (.int .u8)) (hd : P.underlying dst = some .string) :
 (convert src dst (.slice (some ⟨g, 0, none⟩) l.length c)).run P w = .ok (strV l) w :=
 run_convert_bytes_back w src dst e ⟨g, 0, none⟩ c l hs he hd fun j hj => by
  rw [Addr.add_lit, Nat.zero_add]
  exact h.holds j _ (List.getElem?_eq_getElem hj)
end
/-- make([]byte, n) -/
theorem byteRow_make (w : World) (e : TypeId) (n : Nat) (hn : n ≤ maxLen) : ByteRow (w.alloc (.cells (madeCells #[.int .u8 0] n) e)) w.heap.size n (List.replicate n 0) where
 len := by simp
 max := hn
 lt := by simp
 some_ := fun j hj => by
  rw [World.cell?_alloc_new]
  simp [madeCells, hj]
 free := fun j hj => World.frozen?_alloc_new _ _ _ _
 holds := fun j x hx => by
  have hj : j < n := by
   have := (List.getElem?_eq_some_iff.1 hx).1
   simpa using this
  rw [List.getElem?_replicate, if_pos hj] at hx
  obtain rfl := Option.some.inj hx
  rw [World.cell?_alloc_new]
  have : j % 1 = 0 := Nat.mod_one j
  simp [madeCells, hj, this]
/-- copy(b[o:], s), s a string that fits -/
theorem wpList_copy_str {P : Program} {w : World} {ops : Array Oper} {rest : List Oper} {o : Oper} {a : Act} {Q : Exit → Act → World → Prop} (hgd : o.guard = none) (d s : Operand) (dT sT : TypeId)
 (ho : o.op = .call { callee := .builtin .copy, args := #[d, s], argTypes := #[dT, sT] }) (elem : TypeId) (hu : P.underlying dT = some (.slice elem)) (hz : ∀ w, (Go.sizeOf elem).run P w = .ok 1 w)
 (A : Option Addr) (dLen dCap : Nat) (hd : a.eval d = .slice A dLen dCap) (t : Str) (hs : a.eval s = strV t)
 (g off cap : Nat) (l l' : Str) (hg : ByteRow w g cap l) (hA : 0 < t.length → A = some ⟨g, off, none⟩) (hle : t.length ≤ dLen) (hfit : off + t.length ≤ cap) (hl : l'.length ≤ cap)
 (hin : ∀ j, j < t.length → l'[off + j]? = t[j]?) (hout : ∀ (j : Nat) (x : UInt8), (j < off ∨ off + t.length ≤ j) → l'[j]? = some x → l[j]? = some x)
 (h : ∀ w', ByteRow w' g cap l' → Only (oneF g) w w' → wpList P ops Q rest (a.put o.dst (goInt t.length)) w') : wpList P ops Q (o :: rest) a w := by
 refine wpList_plain hgd fun K hK => ?_
 have hst := hg.store off t l' hl hfit hin hout
 have hon : Only (oneF g) w (w.setCells g off (bcells t)) := only_setCells (F := oneF g) g (.inl rfl) _ _ (Only.refl _ _)
 by_cases h0 : t.length = 0
 · obtain rfl : t = [] := List.eq_nil_of_length_eq_zero h0
   have hrun : (Builtin.copy_ #[dT, sT] o.type #[.slice A dLen dCap, strV []]).run P w = .ok (goInt 0) w := by
    cases A <;> simp [Builtin.copy_, run_underlying hu, Builtin.lenOf, Builtin.firstCells, hz, storeCells, ByteArray.size]
   unfold Oper.wp
   simp only [execOp, ho, resolve, invoke, builtin, Sem.run_bind, Sem.run_pure, Result.andThen_ok, List.map_toArray, List.map_cons, List.map_nil, hd, hs, hrun]
   exact hK _ _ (h _ hst hon)
 · obtain rfl := hA (by omega)
   have hrun := run_copy_string (P := P) w dT sT o.type elem g off dLen dCap ⟨t.toArray⟩ hu hz (by simpa [ByteArray.size] using hle)
    (fun j hj => hg.some_ _ (by simp [ByteArray.size] at hj; omega)) (fun j hj => hg.free _ (by simp [ByteArray.size] at hj; omega))
   unfold Oper.wp
   simp only [execOp, ho, resolve, invoke, builtin, Sem.run_bind, Sem.run_pure, Result.andThen_ok, List.map_toArray, List.map_cons, List.map_nil, hd, hs, hrun]
   exact hK _ _ (h _ hst hon)
/-- []byte(s) -/
theorem byteRow_of_str (w : World) (e : TypeId) (s : Str) (hs : s.length ≤ maxLen) :
 ByteRow (w.drew.alloc (.cells (bytesRow ⟨s.toArray⟩ (grownCap w s.length 0 e)) e ((bytesRow ⟨s.toArray⟩ (grownCap w s.length 0 e)).size, (bytesRow ⟨s.toArray⟩ (grownCap w s.length 0 e)).size + 1))) w.heap.size (grownCap w s.length 0 e) s where
 len := grownCap_ge _ _ _ _
 max := grownCap_le_maxLen _ _ _ _ hs
 lt := by simp
 some_ := fun j hj => by
  have hg := grownCap_ge w s.length 0 e
  have h1 : (w.drew.alloc (.cells (bytesRow ⟨s.toArray⟩ (grownCap w s.length 0 e)) e ((bytesRow ⟨s.toArray⟩ (grownCap w s.length 0 e)).size, (bytesRow ⟨s.toArray⟩ (grownCap w s.length 0 e)).size + 1))).cell? ⟨w.heap.size, j, none⟩ = (bytesRow ⟨s.toArray⟩ (grownCap w s.length 0 e))[j]? :=
   cell_of_row _ _ _ _ _ _ (at_new _ _ _ rfl)
  rw [h1]
  have h2 : j < (bytesRow ⟨s.toArray⟩ (grownCap w s.length 0 e)).size := by simp [bytesRow, ByteArray.size]; omega
  simp [h2]
 free := fun j hj => by
  have hg := grownCap_ge w s.length 0 e
  have h1 : (w.drew.alloc (.cells (bytesRow ⟨s.toArray⟩ (grownCap w s.length 0 e)) e ((bytesRow ⟨s.toArray⟩ (grownCap w s.length 0 e)).size, (bytesRow ⟨s.toArray⟩ (grownCap w s.length 0 e)).size + 1))).heap[w.heap.size]? = some (.cells (bytesRow ⟨s.toArray⟩ (grownCap w s.length 0 e)) e ((bytesRow ⟨s.toArray⟩ (grownCap w s.length 0 e)).size, (bytesRow ⟨s.toArray⟩ (grownCap w s.length 0 e)).size + 1)) := at_new _ _ _ rfl
  have h2 : (bytesRow ⟨s.toArray⟩ (grownCap w s.length 0 e)).size = grownCap w s.length 0 e := by simp [bytesRow, ByteArray.size]; omega
  simp only [World.frozen?, h1]
  rw [h2]
  simp
  omega
 holds := fun j x hx => by
  have h1 : (w.drew.alloc (.cells (bytesRow ⟨s.toArray⟩ (grownCap w s.length 0 e)) e ((bytesRow ⟨s.toArray⟩ (grownCap w s.length 0 e)).size, (bytesRow ⟨s.toArray⟩ (grownCap w s.length 0 e)).size + 1))).cell? ⟨w.heap.size, j, none⟩ = (bytesRow ⟨s.toArray⟩ (grownCap w s.length 0 e))[j]? :=
   cell_of_row _ _ _ _ _ _ (at_new _ _ _ rfl)
  rw [h1]
  have hj := (List.getElem?_eq_some_iff.1 hx).1
  have e2 := (List.getElem?_eq_some_iff.1 hx).2
  simp [bytesRow, Array.getElem?_append, hj, e2]
/-- one byte more: 'b = append(b, x)' -/
theorem run_append_byte {P : Program} (w : World) (t ty e : TypeId) (i : TypeInfo) (ht : P.underlying t = some (.slice e)) (hi : P.info? e = some i) (hz : i.zero = some (.int .u8 0)) (hsize : i.size = 1) (hby : i.bytes = 1)
 {g cap : Nat} {l : Str} (h : ByteRow w g cap l) (ad : Addr) (c : Nat) (x : UInt8) (hx : w.cell? ad = some (.int .u8 (x.toNat : Int))) (hl : l.length + 1 ≤ 100000000) :
 ∃ g' cap' w', (Builtin.append_ #[t, t] ty #[.slice (some ⟨g, 0, none⟩) l.length cap, .slice (some ad) 1 c]).run P w = .ok (.slice (some ⟨g', 0, none⟩) (l.length + 1) cap') w' ∧ ByteRow w' g' cap' (l ++ [x]) ∧ Only (oneF g) w w' ∧ (g' = g ∨ w.heap.size ≤ g') := by
 have hnews : ∀ (j : Nat) (u : Value), [Value.int .u8 (x.toNat : Int)][j]? = some u → w.cell? (ad.add j) = some u := by
  intro j u hu
  cases j with
  | zero => simpa [Addr.add] using hu ▸ hx
  | succ j => simp at hu
 by_cases hr : l.length + 1 ≤ cap
 · have hrun := run_append_room_cells (P := P) w t ty e i ht hi g 0 l.length cap ad 1 c [.int .u8 (x.toNat : Int)] (by simp [hsize]) hnews (by simp [Value.oneCell']) hr
    (fun j hj => by simp at hj; subst hj; exact h.some_ _ (by rw [hsize]; omega)) (fun j hj => by simp at hj; subst hj; exact h.free _ (by rw [hsize]; omega))
   rw [hsize, Nat.mul_one, Nat.zero_add] at hrun
   have hst := h.store l.length [x] (l ++ [x]) (by simp; omega) (by simpa using hr) (fun j hj => by simp at hj; subst hj; simp) (fun j y hj hy => by
    have hlt := (List.getElem?_eq_some_iff.1 hy).1
    simp at hj hlt
    rw [List.getElem?_append_left (by omega)] at hy
    exact hy)
   exact ⟨g, cap, _, hrun, hst, only_setCells (F := oneF g) g (.inl rfl) _ _ (Only.refl _ _), .inl rfl⟩
 · obtain ⟨v', w', hrun, r1, r2⟩ := run_append_arg_grows (P := P) w t ty e i (.int .u8 0) 1 1 ht hi hz hsize hby rfl (by decide) ⟨g, 0, none⟩ l.length cap (bcells l) (by rw [length_bcells, Nat.mul_one])
    (fun j u hu => by
     rw [Addr.add_lit, Nat.zero_add]
     simp only [bcells, List.getElem?_map] at hu
     obtain ⟨y, hy, rfl⟩ := Option.map_eq_some_iff.1 hu
     exact h.holds j y hy) ad 1 c [.int .u8 (x.toNat : Int)] (by simp) hnews (by omega) (by unfold maxLen; omega) (by omega)
   rcases r1.2 with ⟨_, h0⟩ | ⟨g', cap', cur, rfl, hge, hh, hn, hm, hs, htk⟩
   · omega
   · have hcells := World.ownsRow.cells (base := w.heap.size) r1 (g := g') rfl
     refine ⟨g', cap', w', hrun, ⟨by simpa using hn, hm, heap_lt hh, fun j hj => ?_, fun j _ => by simp [World.frozen?, hh], fun j y hy => ?_⟩, ⟨r2.os, r2.tape, r2.output, r2.size, fun k hk _ => r2.block k hk (by simp)⟩, .inr hge⟩
     · rw [cell_of_row w' g' j cur e (0, 0) hh]
       have : j < cur.size := by omega
       simp [this]
     · have h2 : (bcells l ++ [.int .u8 (x.toNat : Int)])[j]? = some (.int .u8 (y.toNat : Int)) := by
        have : bcells l ++ [.int .u8 (x.toNat : Int)] = bcells (l ++ [x]) := by simp [bcells]
        rw [this]
        unfold bcells
        rw [List.getElem?_map, hy]
        rfl
       have := hcells j _ h2
       rwa [Addr.add_lit, Nat.zero_add] at this
theorem wpList_append_byte {P : Program} {w : World} {ops : Array Oper} {rest : List Oper} {o : Oper} {a : Act} {Q : Exit → Act → World → Prop} (hgd : o.guard = none) (s y : Operand) (t : TypeId)
 (ho : o.op = .call { callee := .builtin .append, args := #[s, y], argTypes := #[t, t] }) (e : TypeId) (i : TypeInfo) (ht : P.underlying t = some (.slice e)) (hi : P.info? e = some i) (hz : i.zero = some (.int .u8 0)) (hsize : i.size = 1) (hby : i.bytes = 1)
 (g cap : Nat) (l : Str) (h : ByteRow w g cap l) (hs : a.eval s = .slice (some ⟨g, 0, none⟩) l.length cap) (ad : Addr) (c : Nat) (hy : a.eval y = .slice (some ad) 1 c) (x : UInt8) (hx : w.cell? ad = some (.int .u8 (x.toNat : Int))) (hl : l.length + 1 ≤ 100000000)
 (hK : ∀ g' cap' w', ByteRow w' g' cap' (l ++ [x]) → Only (oneF g) w w' → (g' = g ∨ w.heap.size ≤ g') → wpList P ops Q rest (a.put o.dst (.slice (some ⟨g', 0, none⟩) (l.length + 1) cap')) w') : wpList P ops Q (o :: rest) a w := by
 refine wpList_plain hgd fun K hK' => ?_
 obtain ⟨g', cap', w', hrun, h1, h2, h3⟩ := run_append_byte (P := P) w t o.type e i ht hi hz hsize hby h ad c x hx hl
 unfold Oper.wp
 simp only [execOp, ho, resolve, invoke, builtin, Sem.run_bind, Sem.run_pure, Result.andThen_ok, List.map_toArray, List.map_cons, List.map_nil, hs, hy, hrun]
 exact hK' _ _ (hK g' cap' w' h1 h2 h3)
end Go.Proofs.YtdegmpigkgkafaaGreatDoor
