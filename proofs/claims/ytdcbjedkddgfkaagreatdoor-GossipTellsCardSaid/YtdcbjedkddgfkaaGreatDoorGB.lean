/-
  Gossip: joining, walked: Concat, CompactFunc, sorted, items, notes, Join. Condition: the listed variables; at most 100,000 notes.
  Gossip: sorted, items, notes, Join, walked. Condition: the listed variables; at most 100,000 notes.
  Gossip: what past, houses, find, run and the others compute, in plain Lean. No condition.
  Gossip: past, houses, find, walked. Condition: the listed variables; at most 1,000,000 notes.
  Gossip: houses, in plain Lean; rows of houses. No condition.
  Gossip: houses, find, walked. Condition: the listed variables; at most 1,000,000 notes.
-/
import Derived.Test.YtdcbjedkddgfkaaGreatDoorGo2
import Derived.Test.YtdcbjedkddgfkaaGreatDoorSA
import Derived.Lib.AppendZeros
namespace Go.Proofs.YtdcbjedkddgfkaaGreatDoor
set_option maxHeartbeats 4000000
set_option maxRecDepth 20000
set_option linter.unusedVariables false
set_option linter.unusedSimpArgs false
set_option linter.unusedSectionVars false
section
open Go.RowKit
/-! ### an element stored whole, a tail cleared -/
section
variable {P : Program} {ops : Array Oper} {Q : Exit → Act → World → Prop} {rest : List Oper} {a : Act} {w w' : World} {n : Nat} {l : List (Nat × Value)} {ty : TypeId} {pos : String} {aft : Array Edge} {x y : Operand} {t e : TypeId} {base size n' c k j g : Nat} {u z : Value} {xs vs : List Value} {q : Addr}
theorem row_storeA (hS : ∀ w, (sizeOf t).run P w = .ok size w) (hu : u.cells = vs.toArray) (hv : vs.length = size) (h1 : AllOne vs) (hown : w.ownsRow base e size (.slice (some ⟨g, 0, none⟩) n' c) n' xs) (hk : k < n') :
 ∃ w', (Instr.storeAt t (.pointer (some (eA (some ⟨g, 0, none⟩) size k))) u).run P w = .ok () w' ∧ Only (oneF g) w w' ∧ w'.ownsRow base e size (.slice (some ⟨g, 0, none⟩) n' c) n' (splice xs (k * size) vs) := by
 obtain ⟨hl, ⟨e0, _⟩ | ⟨g', cap, cur, hv', hb, hh, hnc, hcm, hcs, ht⟩⟩ := hown
 · injection e0 with e1
   cases e1
 · injection hv' with hv1 _ hv2
   injection hv1 with hv1
   injection hv1 with hv1
   subst hv1 hv2
   have hq : eA (some ⟨g, 0, none⟩) size k = ⟨g, k * size, none⟩ := by
    show (⟨g, 0, none⟩ : Addr).add (k * size) = _
    rw [Addr.add_lit]; simp
   have hb1 : (k + 1) * size ≤ n' * size := Nat.mul_le_mul_right _ hk
   have hb2 : n' * size ≤ c * size := Nat.mul_le_mul_right _ hnc
   have hb3 : (k + 1) * size = k * size + size := Nat.succ_mul k size
   have hcl : cur.toList.length = c * size := by rw [Array.length_toList]; exact hcs
   rw [hq]
   obtain ⟨w', hr, ho, hB⟩ := run_store (P := P) (t := t) (e := e) (g := g) (off := k * size) (m := size) (cs := cur.toList) (vs := vs) hS hu (by rw [hv]; simp) h1 (by simpa [Blk] using hh) (by rw [Nat.ble_eq, hcl, hv]; omega) rfl
   have hl1 : (splice cur.toList (k * size) vs).length = cur.toList.length := by
    unfold splice; simp only [List.length_append, List.length_take, List.length_drop]; omega
   have hl2 : (splice xs (k * size) vs).length = xs.length := by
    unfold splice; simp only [List.length_append, List.length_take, List.length_drop]; omega
   refine ⟨w', hr, ho, by rw [hl2]; exact hl, .inr ⟨g, c, _, rfl, hb, hB, hnc, hcm, by rw [List.size_toArray, hl1]; exact hcl, ?_⟩⟩
   have ht' : xs = cur.toList.take (n' * size) := ht.symm
   show (splice cur.toList (k * size) vs).take (n' * size) = splice xs (k * size) vs
   rw [ht']
   unfold splice
   rw [List.take_take, Nat.min_eq_left (by omega), List.append_assoc, List.append_assoc, List.take_append, List.length_take, Nat.min_eq_left (by omega), List.take_take, Nat.min_eq_right (by omega)]
   congr 1
   rw [List.take_append, hv, List.take_of_length_le (by omega), List.drop_take]
   congr 2
   omega
theorem LStA (hS : ∀ w, (sizeOf t).run P w = .ok size w) (H : Fr n l a) (hx : ev l x = some (.pointer (some q))) (hq : q = eA (some ⟨g, 0, none⟩) size k) (hy : ev l y = some u) (hu : u.cells = vs.toArray) (hv : vs.length = size) (h1 : AllOne vs) (hown : w.ownsRow base e size (.slice (some ⟨g, 0, none⟩) n' c) n' xs) (hk : k < n')
 (h : ∀ w', Only (oneF g) w w' → w'.ownsRow base e size (.slice (some ⟨g, 0, none⟩) n' c) n' (splice xs (k * size) vs) → wpList P ops Q rest a w') :
 wpList P ops Q (⟨none, .store t x y, ty, pos, aft, none⟩ :: rest) a w := by
 subst hq
 obtain ⟨w', hr, h2, h3⟩ := row_storeA (P := P) hS hu hv h1 hown hk
 refine LS (w' := w') ?_ (h w' h2 h3)
 simp only [execOp, H.eval hx, H.eval hy, Sem.run_bind, hr, Result.andThen_ok, Sem.run_pure]
theorem slA0 : slA (some ⟨g, 0, none⟩) c 0 size = some ⟨g, 0, none⟩ := by
 unfold slA
 split
 · rfl
 · show some ((⟨g, 0, none⟩ : Addr).add (0 * size)) = _
   rw [Addr.add_lit]; simp
theorem row_clear {te : TypeId} (ht : P.underlying te = some (.slice e)) (hz : ∀ w, (zeroValue e).run P w = .ok z w) (hzs : z.cells.size = size) (hz1 : ∀ u ∈ z.cells, u.oneCell' = true) (hown : w.ownsRow base e size (.slice (some ⟨g, 0, none⟩) n' c) n' xs) (hj : j ≤ n') :
 ∃ w', (∀ ty, (Builtin.clear_ #[te] ty #[.slice (slA (some ⟨g, 0, none⟩) c j size) (n' - j) (c - j)]).run P w = .ok (.tuple #[]) w') ∧ Only (oneF g) w w' ∧ w'.ownsRow base e size (.slice (some ⟨g, 0, none⟩) j c) j (xs.take (j * size)) := by
 obtain ⟨hl, ⟨e0, _⟩ | ⟨g', cap, cur, hv', hb, hh, hnc, hcm, hcs, htk⟩⟩ := hown
 · injection e0 with e1
   cases e1
 · injection hv' with hv1 _ hv2
   injection hv1 with hv1
   injection hv1 with hv1
   subst hv1 hv2
   have hb1 : j * size ≤ n' * size := Nat.mul_le_mul_right _ hj
   have hb2 : n' * size ≤ c * size := Nat.mul_le_mul_right _ hnc
   have hcl : cur.toList.length = c * size := by rw [Array.length_toList]; exact hcs
   have hxt : xs.take (j * size) = cur.toList.take (j * size) := by rw [← htk, List.take_take, Nat.min_eq_left hb1]
   have hxl : (xs.take (j * size)).length = j * size := by rw [List.length_take, hl, Nat.min_eq_left hb1]
   rcases Nat.lt_or_ge j n' with hlt | hge
   · have hA : slA (some ⟨g, 0, none⟩) c j size = some ⟨g, j * size, none⟩ := by
      unfold slA
      rw [if_neg (by omega)]
      show some ((⟨g, 0, none⟩ : Addr).add (j * size)) = _
      rw [Addr.add_lit]; simp
     have hsub : (n' - j) * size = n' * size - j * size := Nat.sub_mul ..
     obtain ⟨cs', hr, hl', ht'⟩ := run_clear_row (P := P) (t := te) (e := e) (z := z) ht hz hz1 (w := w) (g := g) (e' := e) (cs := cur.toList) (by simpa [Blk] using hh) (j * size) (n' - j) (c - j) (by rw [hzs, hsub, hcl]; omega) (by omega)
     refine ⟨_, fun ty => by rw [hA]; exact hr ty, (Only.refl (oneF g) w).setRow' (.inl rfl) cs'.toArray, hxl, .inr ⟨g, c, cs'.toArray, rfl, hb, Blk.setRow_ (by simpa [Blk] using hh) _, by omega, hcm, by rw [List.size_toArray, hl']; exact hcl, ?_⟩⟩
     rw [hxt]; exact ht'
   · have hjn : j = n' := by omega
     subst hjn
     refine ⟨w, fun ty => ?_, Only.refl _ _, hxl, .inr ⟨g, c, cur, rfl, hb, hh, hnc, hcm, hcs, hxt.symm⟩⟩
     rw [Nat.sub_self]
     unfold Builtin.clear_
     cases hs : slA (some ⟨g, 0, none⟩) c j size <;> simp [run_underlying ht]
theorem LClr {te : TypeId} {sv : Value} (hte : P.underlying te = some (.slice e)) (hz : ∀ w, (zeroValue e).run P w = .ok z w) (hzs : z.cells.size = size) (hz1 : ∀ u ∈ z.cells, u.oneCell' = true) (H : Fr n l a) (hx : ev l x = some sv) (hsv : sv = .slice (slA (some ⟨g, 0, none⟩) c j size) (n' - j) (c - j)) (hown : w.ownsRow base e size (.slice (some ⟨g, 0, none⟩) n' c) n' xs) (hj : j ≤ n')
 (h : ∀ w', Only (oneF g) w w' → w'.ownsRow base e size (.slice (some ⟨g, 0, none⟩) j c) j (xs.take (j * size)) → wpList P ops Q rest a w') :
 wpList P ops Q (⟨none, .call { callee := .builtin .clear, args := #[x], argTypes := #[te] }, ty, pos, aft, none⟩ :: rest) a w := by
 subst hsv
 obtain ⟨w', hr, h2, h3⟩ := row_clear (P := P) hte hz hzs hz1 hown hj
 refine wpList_plain rfl fun K hK => ?_
 have hrun : (execOp a.eval ⟨none, .call { callee := .builtin .clear, args := #[x], argTypes := #[te] }, ty, pos, aft, none⟩).run P w = .ok (.value (.tuple #[])) w' := by
  simp only [execOp, resolve, invoke, builtin, List.map_toArray, List.map_cons, List.map_nil, H.eval hx, Sem.run_bind, Sem.run_pure, Result.andThen_ok, hr]
 simp only [Oper.wp, hrun, Oper.upon_value]
 exact hK _ _ (h _ h2 h3)
end
theorem flat_splice {k : Nat} {m m' : NM} : ∀ {l : List NM}, l[k]? = some m → splice (l.flatMap KN0.cells) (k * 5) (KN0.cells m') = (l.set k m').flatMap KN0.cells := by
 intro l
 induction l generalizing k with
 | nil => intro h; simp at h
 | cons a l ih =>
  intro h
  cases k with
  | zero =>
   show splice (KN0.cells a ++ l.flatMap KN0.cells) (0 * 5) (KN0.cells m') = KN0.cells m' ++ l.flatMap KN0.cells
   unfold splice
   simp [KN0]
  | succ k =>
   have := ih (k := k) (by simpa using h)
   show splice (KN0.cells a ++ l.flatMap KN0.cells) ((k + 1) * 5) (KN0.cells m') = KN0.cells a ++ (l.set k m').flatMap KN0.cells
   rw [← this]
   have e : (KN0.cells a).length = 5 := rfl
   have e2 : (KN0.cells m').length = 5 := rfl
   unfold splice
   rw [List.take_append, List.drop_append, e, e2, List.take_of_length_le (by omega), List.drop_of_length_le (l := KN0.cells a) (by rw [e]; omega)]
   simp only [List.append_assoc, List.nil_append]
   rw [show (k + 1) * 5 - 5 = k * 5 by omega, show (k + 1) * 5 + 5 - 5 = k * 5 + 5 by omega]
theorem flat_take (l : List NM) (j : Nat) : (l.flatMap KN0.cells).take (j * 5) = (l.take j).flatMap KN0.cells := by
 induction l generalizing j with
 | nil => simp
 | cons a l ih =>
  cases j with
  | zero => simp
  | succ j =>
   show (KN0.cells a ++ l.flatMap KN0.cells).take ((j + 1) * 5) = KN0.cells a ++ (l.take j).flatMap KN0.cells
   have e : (KN0.cells a).length = 5 := rfl
   rw [List.take_append, e, List.take_of_length_le (by rw [e]; omega), show (j + 1) * 5 - 5 = j * 5 by omega, ih]
/-! ### equal ones, each once -/
def cmpG (p : NM) : List NM → List NM
 | [] => []
 | x :: l => if cmpN x p = 0 then cmpG x l else x :: cmpG x l
def compactN : List NM → List NM
 | [] => []
 | x :: l => x :: cmpG x l
theorem cmpG_snoc {m p : NM} : ∀ (l : List NM) (q : NM), (l = [] → q = p) → (∀ h : l ≠ [], l.getLast h = p) → cmpG q (l ++ [m]) = cmpG q l ++ (if cmpN m p = 0 then [] else [m])
 | [], q, h, _ => by
  rw [h rfl]
  simp only [List.nil_append, cmpG]
 | x :: l, q, _, h => by
  have h2 : ∀ h : l ≠ [], l.getLast h = p := fun hl => by
   have := h (by simp)
   rwa [List.getLast_cons hl] at this
  have h1 : l = [] → x = p := fun hl => by
   subst hl
   exact h (by simp)
  show cmpG q (x :: (l ++ [m])) = _
  simp only [cmpG]
  rw [cmpG_snoc l x h1 h2]
  split <;> simp
theorem comp_snoc {l : List NM} {m p : NM} {k : Nat} (hk : 0 < k) (hm : l[k]? = some m) (hp : l[k - 1]? = some p) : compactN (l.take (k + 1)) = compactN (l.take k) ++ (if cmpN m p = 0 then [] else [m]) := by
 rw [take_succ_get hm]
 cases l with
 | nil => simp at hm
 | cons x l =>
  obtain ⟨k', rfl⟩ : ∃ k', k = k' + 1 := ⟨k - 1, by omega⟩
  show compactN (x :: (l.take k' ++ [m])) = _
  show x :: cmpG x (l.take k' ++ [m]) = x :: cmpG x (l.take k') ++ _
  have hk1 := (List.getElem?_eq_some_iff.1 hm).1
  have hk2 : k' + 1 < l.length + 1 := by simpa using hk1
  rw [cmpG_snoc (l.take k') x (p := p)]
  · rfl
  · intro h
    cases k' with
    | zero => simpa using hp
    | succ k'' =>
     have : (l.take (k'' + 1)).length = 0 := by rw [h]; rfl
     rw [List.length_take] at this; omega
  · intro h
    cases k' with
    | zero => simp at h
    | succ k'' =>
     have e : (l.take (k'' + 1)).getLast h = l[k'']'(by omega) := by
      rw [List.getLast_eq_getElem]
      have hl : (l.take (k'' + 1)).length - 1 = k'' := by rw [List.length_take]; omega
      simp only [List.getElem_take, hl]
     rw [e]
     have : (x :: l)[k'' + 1]? = some p := by simpa using hp
     simp at this
     obtain ⟨_, h2⟩ := List.getElem?_eq_some_iff.1 this
     exact h2
theorem comp_mem : ∀ {l : List NM} {q x : NM}, x ∈ cmpG q l → x ∈ l
 | [], _, _, h => by cases h
 | y :: l, q, x, h => by
  unfold cmpG at h
  split at h
  · exact List.mem_cons_of_mem _ (comp_mem h)
  · rcases List.mem_cons.1 h with rfl | h
    · exact List.mem_cons_self ..
    · exact List.mem_cons_of_mem _ (comp_mem h)
theorem comp_sub {l : List NM} {x : NM} (h : x ∈ compactN l) : x ∈ l := by
 cases l with
 | nil => cases h
 | cons y l =>
  rcases List.mem_cons.1 h with rfl | h
  · exact List.mem_cons_self ..
  · exact List.mem_cons_of_mem _ (comp_mem h)
theorem cmpN_le_trans {a b c : NM} (h1 : cmpN a b ≤ 0) (h2 : cmpN b c < 0) : cmpN a c < 0 := by
 rcases Int.lt_or_eq_of_le h1 with h | h
 · exact cmpN_trans h h2
 · have h4 := cmpN_zero.1 h
   have e : cmpN a c = cmpN b c := by unfold cmpN; rw [h4.1, h4.2.1, h4.2.2]
   omega
/-- q is behind all that came before; what follows is ascending -/
theorem comp_spec : ∀ (l : List NM) (q : NM), (∀ x ∈ q :: l, right x = true) → (q :: l).Pairwise (fun a b => cmpN a b ≤ 0) →
 ((cmpG q l).map ns).Pairwise (fun a b => cmpN a b < 0) ∧ (∀ x ∈ cmpG q l, cmpN q x < 0) ∧ (∀ x ∈ l, ns x = ns q ∨ ns x ∈ (cmpG q l).map ns)
 | [], q, _, _ => ⟨List.Pairwise.nil, fun x hx => (by cases hx), fun x hx => (by cases hx)⟩
 | x :: l, q, hr, hs => by
  have hs' := List.pairwise_cons.1 hs
  obtain ⟨h1, h2, h3⟩ := comp_spec l x (fun y hy => hr y (List.mem_cons_of_mem _ hy)) hs'.2
  have hqx := hs'.1 x (List.mem_cons_self ..)
  unfold cmpG
  split
  · rename_i h0
    have he : ns x = ns q := cmpN_eq (hr x (by simp)) (hr q (by simp)) h0
    refine ⟨h1, fun y hy => cmpN_le_trans hqx (h2 y hy), fun y hy => ?_⟩
    rcases List.mem_cons.1 hy with rfl | hy
    · exact .inl he
    · rcases h3 y hy with h | h
      · exact .inl (h.trans he)
      · exact .inr h
  · rename_i h0
    have hlt : cmpN q x < 0 := by have := cmpN_anti q x; omega
    refine ⟨?_, fun y hy => ?_, fun y hy => ?_⟩
    · rw [List.map_cons]
      refine List.pairwise_cons.2 ⟨fun z hz => ?_, h1⟩
      obtain ⟨y, hy, rfl⟩ := List.mem_map.1 hz
      rw [cmpN_ns]; exact h2 y hy
    · rcases List.mem_cons.1 hy with rfl | hy
      · exact hlt
      · exact cmpN_trans hlt (h2 y hy)
    · rw [List.map_cons]
      rcases List.mem_cons.1 hy with rfl | hy
      · exact .inr (List.mem_cons_self ..)
      · rcases h3 y hy with h | h
        · exact .inr (by rw [h]; exact List.mem_cons_self ..)
        · exact .inr (List.mem_cons_of_mem _ h)
theorem compact_join {l : List NM} (hr : ∀ x ∈ l, right x = true) (hs : l.Pairwise (fun a b => cmpN a b ≤ 0)) : (compactN l).map ns = joinN l := by
 have key : SortedN ((compactN l).map ns) ∧ ∀ x ∈ l, ns x ∈ (compactN l).map ns := by
  cases l with
  | nil => exact ⟨List.Pairwise.nil, fun x hx => by cases hx⟩
  | cons q l =>
   obtain ⟨h1, h2, h3⟩ := comp_spec l q hr hs
   refine ⟨?_, fun x hx => ?_⟩
   · show ((q :: cmpG q l).map ns).Pairwise _
     rw [List.map_cons]
     refine List.pairwise_cons.2 ⟨fun z hz => ?_, h1⟩
     obtain ⟨y, hy, rfl⟩ := List.mem_map.1 hz
     rw [cmpN_ns]; exact h2 y hy
   · show ns x ∈ (q :: cmpG q l).map ns
     rw [List.map_cons]
     rcases List.mem_cons.1 hx with rfl | hx
     · exact List.mem_cons_self ..
     · rcases h3 x hx with h | h
       · rw [h]; exact List.mem_cons_self ..
       · exact List.mem_cons_of_mem _ h
 refine sorted_uniq key.1 (join_sorted l) fun x => ?_
 rw [mem_join]
 constructor
 · intro hx
   obtain ⟨y, hy, rfl⟩ := List.mem_map.1 hx
   exact ⟨y, comp_sub hy, hr y (comp_sub hy), rfl⟩
 · rintro ⟨y, hy, _, rfl⟩
   exact key.2 y hy
/-! ### rows of rows; Grow -/
/-- a row of notes, their needs as facts at the same world -/
def NtV (w : World) (v : Value) (l : List NM) : Prop := SliceOf AllB 5 KN0.R w v l ∧ OkNs AllB w l
theorem NtV.k {w w' : World} {v : Value} {l : List NM} (h : NtV w v l) (o : Only NoF w w') : NtV w' v l := ⟨SliceOf.kp h.1 o (fun _ _ h => h) (fun _ _ _ _ h => h), h.2.k o⟩
theorem NtV.of {w : World} {v : Value} {l : List NM} (h : NotesV w w v l) : NtV w v l :=
 ⟨SliceOf.only h (Only.refl NoF w) (fun _ _ h => h) fun cs x _ hR => ⟨hR.1, trivial⟩, nt_ok h⟩
theorem NtV.nil (w : World) : NtV w (.slice none 0 0) [] := ⟨SliceOf.nil_ _ _ _, OkNs.nil⟩
theorem NtV.own {w : World} {S : Nat → Prop} {base : Nat} {v : Value} {l : List NM} (h : w.ownsRow base 43 5 v l.length (l.flatMap KN0.cells)) (hn : OkNs S w l) : NtV w v l := ⟨SliceOf.pl (Row.own KN0 h fun _ _ => trivial), hn.pl⟩
structure NR where
 A : Option Addr
 l : List NM
 c : Nat
def KNR (w : World) : Row NR := ⟨1, fun m => [.slice m.A m.l.length m.c], fun m => NtV w (.slice m.A m.l.length m.c) m.l, fun _ => rfl, by decide, fun x u hu => by
 simp at hu
 subst hu; rfl⟩
theorem r_cap {P : Program} {w : World} {n : Nat} {l : List (Nat × Value)} {a : Act} {dst : Option Tmp} {ty : TypeId} {pos : String} {aft : Array Edge} {g : Option (Nat × Bool)} {x : Operand} {t e : TypeId} {A : Option Addr} {k c : Nat} (hu : P.underlying t = some (.slice e)) (H : Fr n l a) (hx : ev l x = some (.slice A k c)) :
 (execOp a.eval ⟨dst, .call { callee := .builtin .cap, args := #[x], argTypes := #[t] }, ty, pos, aft, g⟩).run P w = .ok (.value (.int .i64 (c : Int))) w := by
 simp [execOp, resolve, invoke, builtin, H.eval hx, Builtin.cap_, run_underlying hu, goInt]
theorem grow_nil {P : Program} {w : World} {t tn e : TypeId} {n : Nat} (hE : ElemIs P t e 5 64) (hn : P.underlying tn = some (.int .i64)) (h0 : 0 < n) (h1 : n ≤ 1000000) : ∃ g c w', (∀ ty, (Builtin.append_ #[t, tn] ty #[.slice none 0 0, .int .i64 n]).run P w = .ok (.slice (some ⟨g, 0, none⟩) n c) w') ∧
 w'.ownsRow w.heap.size e 5 (.slice (some ⟨g, 0, none⟩) 0 c) 0 [] ∧ Only NoF w w' := by
 obtain ⟨ht, i, z, hi, hz, hs, hb, hzs⟩ := hE
 have hr := fun ty => Lib.run_append_nil_zeros (P := P) w t tn ty e i z .i64 .i64 ht hn hi hz n h0 (by omega) (by omega) (by first | (rw [hb]; omega) | omega)
 refine ⟨w.heap.size, grownCap w n 0 e, _, hr, ⟨rfl, .inr ⟨w.heap.size, grownCap w n 0 e, Builtin.zeroCells z.cells n ++ Builtin.zeroCells z.cells (grownCap w n 0 e - n), rfl, Nat.le_refl _, ?_, Nat.zero_le _, grownCap_le_maxLen w n 0 e (by unfold maxLen; omega), ?_, by simp⟩⟩, (Only.refl NoF w).drew.alloc _⟩
 · show ((w.heap).push _)[w.heap.size]? = _
   simp
 · have hge := grownCap_ge w n 0 e
   simp only [Builtin.zeroCells, Array.size_append, Array.size_map, Array.size_range]
   rw [← Nat.add_mul, show n + (grownCap w n 0 e - n) = grownCap w n 0 e by omega]
   congr 1
   first | exact hzs | (rw [hzs]) | skip
def GrowTo (w : World) (e : Ending) (w' : World) : Prop := ∃ A c, e = .returned (.slice A 0 c) ∧ w'.ownsRow w.heap.size 43 5 (.slice A 0 c) 0 [] ∧ Only NoF w w'
def ConTo (M : List NR) (w : World) (e : Ending) (w' : World) : Prop := ∃ A c, e = .returned (.slice A (M.flatMap (·.l)).length c) ∧ w'.ownsRow w.heap.size 43 5 (.slice A (M.flatMap (·.l)).length c) (M.flatMap (·.l)).length ((M.flatMap (·.l)).flatMap KN0.cells) ∧ Only NoF w w'
theorem r_apz {P : Program} {w w' : World} {n : Nat} {l : List (Nat × Value)} {a : Act} {dst : Option Tmp} {ty : TypeId} {pos : String} {aft : Array Edge} {g : Option (Nat × Bool)} {x y : Operand} {t tn : TypeId} {u v r : Value} (h : ∀ ty, (Builtin.append_ #[t, tn] ty #[v, u]).run P w = .ok r w') (H : Fr n l a) (hx : ev l x = some v) (hy : ev l y = some u) :
 (execOp a.eval ⟨dst, .call { callee := .builtin .append, args := #[x, y], argTypes := #[t, tn] }, ty, pos, aft, g⟩).run P w = .ok (.value r) w' := by
 simp only [execOp, resolve, invoke, builtin, List.map_toArray, List.map_cons, List.map_nil, H.eval hx, H.eval hy, Sem.run_bind, Sem.run_pure, Result.andThen_ok, h]
theorem sum_take {M : List NR} (k : Nat) : ((M.take k).map fun m => m.l.length).sum ≤ (M.map fun m => m.l.length).sum := by
 conv => rhs; rw [← List.take_append_drop k M, List.map_append, List.sum_append]
 omega
theorem sum_le {M : List NR} {k : Nat} {m : NR} (h : M[k]? = some m) : ((M.take k).map fun m => m.l.length).sum + m.l.length ≤ (M.map fun m => m.l.length).sum := by
 have := sum_take (M := M) (k + 1)
 rw [take_succ_get h, List.map_append, List.sum_append] at this
 simpa using this
section
variable {P : Program} {ops : Array Oper} {Q : Exit → Act → World → Prop} {rest : List Oper} {a : Act} {w w1 : World} {n : Nat} {l : List (Nat × Value)} {d : Nat} {ty : TypeId} {pos : String} {aft : Array Edge}
theorem call_runC {xs : List Operand} {ats : Array TypeId} {f : FuncId} {cs vs : List Value} {dst : Option Tmp} {g : Option (Nat × Bool)} {fo : Operand} (H : Fr n l a) (hfo : ev l fo = some (.func (.func f) #[] cs.toArray)) (hv : evs l xs = some vs) (hf : ∀ args w, (callFunc f args).run P w = .ok (.enter f args) w) :
 (execOp a.eval ⟨dst, .call { callee := .value fo, args := xs.toArray, argTypes := ats }, ty, pos, aft, g⟩).run P w = .ok (.enter f (vs ++ cs).toArray) w := by
 have := H.evals hv
 simp only [execOp, resolve, Deferred.ofValue, invoke, H.eval hfo, Sem.run_bind, Sem.run_pure, Result.andThen_ok, List.map_toArray, this, Array.empty_append, List.append_toArray, List.nil_append, hf]
theorem r_mfc {f : FuncId} {dst : Option Tmp} {g : Option (Nat × Bool)} {caps : List Operand} {vs : List Value} (H : Fr n l a) (hv : evs l caps = some vs) : (execOp a.eval ⟨dst, .makeFunc (.func f) #[] caps.toArray, ty, pos, aft, g⟩).run P w = .ok (.value (.func (.func f) #[] vs.toArray)) w := by
 have := H.evals hv
 simp [execOp, Instr.makeFunc, this]
theorem Pl.MSCC {F : Nat → Prop} {m k i : Nat} {T : List Nat} {r : Plan} {xs : List Operand} {ats : Array TypeId} {f : FuncId} {cs vs : List Value} {fo : Operand} {R : Ending → World → Prop} (H : Fr n l a) (ho : ops[i]? = some ⟨some d, .call { callee := .value fo, args := xs.toArray, argTypes := ats }, ty, pos, aft, none⟩) (hfo : ev l fo = some (.func (.func f) #[] cs.toArray)) (hv : evs l xs = some vs)
 (hf : ∀ args w, (callFunc f args).run P w = .ok (.enter f args) w) (hc : Calls P f (vs ++ cs).toArray w R) (hd : Nat.blt d n = true)
 (h : ∀ e w', R e w' → ∃ v, e = .returned v ∧ SK F m w1 (k + 1) w' ∧ ∀ a', Fr n ((d, v) :: l) a' → wpPl P ops Q (SK F m w1) T (k + 1) r a' w') : wpPl P ops Q (SK F m w1) T k (.ex i r) a w := by
 refine wpPl_do ho rfl ?_
 simp only [Oper.wp, call_runC H hfo hv hf, Oper.upon_enter]
 refine hc.mono fun e w' hR => ?_
 obtain ⟨v, rfl, h1, h2⟩ := h e w' hR
 exact ⟨h1, h2 _ (H.puts hd v)⟩
end
theorem own_lenE {w : World} {base : Nat} {e : TypeId} {A : Option Addr} {c n : Nat} {O : List NM} (h : w.ownsRow base e 5 (.slice A n c) n (O.flatMap KN0.cells)) (hl : O.length = n) : SliceOf (geB base) 5 KN0.R w (.slice A n c) O := by
 subst hl; exact Row.own KN0 h fun _ _ => trivial
/-! ### compacting -/
section
variable {L O : List NM} {k j q : Nat} {m p : NM}
theorem cp_stop (hp : L[k - 1]? = some p) (hm : L[k]? = some m) (hk : 0 < k) (hL : compactN (L.take k) = L.take k) (h : decide (cmpN m p = 0) = false) : compactN (L.take (k + 1)) = L.take (k + 1) := by
 rw [comp_snoc hk hm hp, hL, if_neg (of_decide_eq_false h), take_succ_get hm]
theorem cp_hit (hp : L[k - 1]? = some p) (hm : L[k]? = some m) (hk : 0 < k) (hL : compactN (L.take k) = L.take k) (h : decide (cmpN m p = 0) = true) : L.take k = compactN (L.take (k + 1)) := by
 rw [comp_snoc hk hm hp, hL, if_pos (of_decide_eq_true h), List.append_nil]
theorem cp_yes (hq : 0 < q) (hp : L[k + q - 1]? = some p) (hm : L[k + q]? = some m) (hT : O.take j = compactN (L.take (k + q))) (h : (!decide (cmpN m p = 0)) = false) : O.take j = compactN (L.take (k + (q + 1))) := by
 rw [show k + (q + 1) = k + q + 1 by omega, comp_snoc (by omega) hm hp, ← hT, if_pos (of_decide_eq_true (nt_f h)), List.append_nil]
theorem cp_no (hq : 0 < q) (hp : L[k + q - 1]? = some p) (hm : L[k + q]? = some m) (hjl : j < O.length) (hT : O.take j = compactN (L.take (k + q))) (h : (!decide (cmpN m p = 0)) = true) : (O.set j m).take (j + 1) = compactN (L.take (k + (q + 1))) := by
 rw [show k + (q + 1) = k + q + 1 by omega, comp_snoc (by omega) hm hp, ← hT, if_neg (of_decide_eq_false (nt_t h))]
 have e : (O.set j m)[j]? = some m := List.getElem?_set_self hjl
 rw [take_succ_get e, List.take_set_of_le (Nat.le_refl _)]
theorem cp_set (hO : ∀ i, k + q ≤ i + 1 → O[i]? = L[i]?) (hj : j + 1 ≤ k + q) : ∀ i, k + (q + 1) ≤ i + 1 → (O.set j m)[i]? = L[i]? := by
 intro i hi
 rw [List.getElem?_set_ne (by omega)]
 exact hO i (by omega)
theorem cp_drop (hm : (List.drop k O)[q]? = some m) : O[k + q]? = some m := by rwa [List.getElem?_drop] at hm
end
def CompTo (g base : Nat) (cap : Nat) (L : List NM) (w : World) (e : Ending) (w' : World) : Prop := e = .returned (.slice (some ⟨g, 0, none⟩) (compactN L).length cap) ∧ w'.ownsRow base 95 5 (.slice (some ⟨g, 0, none⟩) (compactN L).length cap) (compactN L).length ((compactN L).flatMap KN0.cells) ∧ Only (oneF g) w w'
theorem comp_short {L : List NM} (h : L.length < 2) : compactN L = L := by
 match L, h with
 | [], _ => rfl
 | [x], _ => rfl
theorem ow_cap {w : World} {base g n c size : Nat} {e : TypeId} {xs : List Value} (h : w.ownsRow base e size (.slice (some ⟨g, 0, none⟩) n c) n xs) : n ≤ c := by
 obtain ⟨_, ⟨h0, _⟩ | ⟨_, _, _, h0, _, _, h1, _⟩⟩ := h
 · injection h0 with h0; cases h0
 · injection h0 with _ _ h0
   rw [h0]; exact h1
theorem Grow_v (w : World) {n : Nat} (hn : n ≤ 1000000) : Calls Tryz.prog 87 [.slice none 0 0, .int .i64 (n : Int)].toArray w (GrowTo w) := by
 refine calls_start Tryz.func87 rfl rfl ?_
 intro az Z
 rw [Tryz.ntmps87] at Z
 refine wp_seq_k fun _ k1 => wp_region_lit ?_
 refine L (r_as Z rfl) Z rfl ?_; clear Z az; intro az Z
 refine k1 _ _ (wp_seq_k fun _ k2 => ?_)
 refine wp_seq_k fun _ k3 => wp_region_lit ?_
 refine L (r_mv Z rfl) Z rfl ?_; clear Z az; intro az Z
 refine L (r_ltI Z rfl rfl) Z rfl ?_; clear Z az; intro az Z
 refine k3 _ _ ?_
 refine br Z rfl (fun hc4 => ?_) (fun hc4 => ?_)
 ·
  have p5 := of_decide_eq_true hc4
  exact absurd (of_decide_eq_true hc4) (by omega)
 ·
  have p6 := of_decide_eq_false hc4
  refine wp_skip ?_
  refine k2 _ _ (wp_seq_k fun _ k7 => ?_)
  refine wp_seq_k fun _ k8 => wp_region_lit ?_
  refine L (r_mv Z rfl) Z rfl ?_; clear Z az; intro az Z
  refine L (r_mv Z rfl) Z rfl ?_; clear Z az; intro az Z
  refine L (r_cap Tryz.underlying22 Z rfl) Z rfl ?_; clear Z az; intro az Z
  refine L (r_mv Z rfl) Z rfl ?_; clear Z az; intro az Z
  refine L (r_lenL Tryz.underlying22 Z rfl) Z rfl ?_; clear Z az; intro az Z
  have i9 : I64 ((0 - 0)) := by unfold I64; omega
  refine L (r_subI (r := (0 - 0)) Z rfl rfl rfl i9) Z rfl ?_; clear Z az; intro az Z
  have i10 : I64 (((n : Int) - (0 - 0))) := by unfold I64; omega
  refine L (r_subI (r := ((n : Int) - (0 - 0))) Z rfl rfl rfl i10) Z rfl ?_; clear Z az; intro az Z
  skip
  ·
   rw [show (n : Int) - (0 - 0) = (n : Int) by omega] at Z
   refine L (r_as Z rfl) Z rfl ?_; clear Z az; intro az Z
   refine k8 _ _ (wp_seq_k fun _ k11 => wp_region_lit ?_)
   refine L (r_mv Z rfl) Z rfl ?_; clear Z az; intro az Z
   refine L (r_gtI Z rfl rfl) Z rfl ?_; clear Z az; intro az Z
   refine k11 _ _ ?_
   refine br Z rfl (fun hc12 => ?_) (fun hc12 => ?_)
   ·
    have p13 := of_decide_eq_true hc12
    refine wp_region_lit ?_
    refine L (r_mv Z rfl) Z rfl ?_; clear Z az; intro az Z
    refine L (r_mv Z rfl) Z rfl ?_; clear Z az; intro az Z
    refine L (r_cap Tryz.underlying22 Z rfl) Z rfl ?_; clear Z az; intro az Z
    refine L (r_slh (m := 0) (size := 5) Tryz.underlying22 Tryz.sizeOf43 Z rfl rfl rfl (Nat.zero_le _)) Z rfl ?_; clear Z az; intro az Z
    refine L (r_mv Z rfl) Z rfl ?_; clear Z az; intro az Z
    obtain ⟨g14, c15, w16, hr17, r18, o19⟩ := grow_nil (P := Tryz.prog) (w := w) elemNote Tryz.underlying3 (n := n) (by omega) hn
    refine L (r_apz hr17 Z rfl rfl) Z rfl ?_; clear Z az; intro az Z
    refine L (r_mv Z rfl) Z rfl ?_; clear Z az; intro az Z
    refine L (r_lenL Tryz.underlying22 Z rfl) Z rfl ?_; clear Z az; intro az Z
    refine L (r_slh (m := 0) (size := 5) Tryz.underlying22 Tryz.sizeOf43 Z rfl rfl rfl (Nat.zero_le _)) Z rfl ?_; clear Z az; intro az Z
    refine L (r_as Z rfl) Z rfl ?_; clear Z az; intro az Z
    refine k7 _ _ (wp_seq_k fun _ k20 => wp_region_lit ?_)
    refine L (r_mv Z rfl) Z rfl ?_; clear Z az; intro az Z
    refine L (r_as Z rfl) Z rfl ?_; clear Z az; intro az Z
    refine k20 _ _ ?_
    refine wp_ret ?_
    show bodyPost _ _ _ .ret _ _
    refine ret_of (vs := [.slice (slA (some ⟨g14, 0, none⟩) c15 0 5) (0) c15]) Z Tryz.results87 ⟨rfl, trivial⟩ ?_
    rw [slA0]; exact ⟨_, _, rfl, r18, o19⟩
   ·
    have p21 := of_decide_eq_false hc12
    refine wp_skip ?_
    refine k7 _ _ (wp_seq_k fun _ k22 => wp_region_lit ?_)
    refine L (r_mv Z rfl) Z rfl ?_; clear Z az; intro az Z
    refine L (r_as Z rfl) Z rfl ?_; clear Z az; intro az Z
    refine k22 _ _ ?_
    refine wp_ret ?_
    show bodyPost _ _ _ .ret _ _
    refine ret_of (vs := [.slice none (0) 0]) Z Tryz.results87 ⟨rfl, trivial⟩ ?_
    exact ⟨_, _, rfl, World.ownsRow_nil _ _ _ _, (Only.refl NoF w)⟩
theorem Con_v_ {w : World} {M : List NR} {A1 : Option Addr} {c1 : Nat} (f1 : SliceOf AllB 1 (KNR w).R w (.slice A1 M.length c1) M) (hM : ((M.map fun m => m.l.length).sum) ≤ 1000000) : Calls Tryz.prog 51 [.slice A1 M.length c1].toArray w (ConTo M w) := by
 have hbd1 := Nat.le_trans (SliceOf.cap_ f1) (SliceOf.lens f1).2
 refine calls_start Tryz.func51 rfl rfl ?_
 intro az Z
 rw [Tryz.ntmps51] at Z
 refine wp_seq_k fun _ k1 => wp_region_lit ?_
 refine L (r_as Z rfl) Z rfl ?_; clear Z az; intro az Z
 refine k1 _ _ (wp_seq_k fun _ k2 => wp_region_lit ?_)
 refine L (r_as Z rfl) Z rfl ?_; clear Z az; intro az Z
 refine k2 _ _ (wp_seq_k fun _ k3 => ?_)
 refine wp_seq_k fun _ k4 => wp_region_lit ?_
 refine L (r_mv Z rfl) Z rfl ?_; clear Z az; intro az Z
 refine L (r_lenL Tryz.underlying77 Z rfl) Z rfl ?_; clear Z az; intro az Z
 refine L (r_mv Z rfl) Z rfl ?_; clear Z az; intro az Z
 refine k4 _ _ ?_
 refine wp_block ?_
 refine wp_loop_m (fun mz az W => ∃ k : Nat, ∃ n : Nat, mz = M.length - k ∧ Fr 36 [(0, .slice A1 (M.length) c1), (9, .slice A1 (M.length) c1), (10, .int .i64 (((M.length : Nat) : Int))), (11, .int .i64 ((k : Int))), (3, .int .i64 ((n : Int)))] az ∧ (k ≤ M.length) ∧ (n = ((M.take k).map fun m => m.l.length).sum) ∧ Only NoF w W) ?_ ?_
 ·
  exact ⟨_, 0, 0, rfl, Z.cut ⟨rfl, rfl, rfl, rfl, rfl, trivial⟩, Nat.zero_le _, rfl, (Only.refl NoF w)⟩
 clear Z az
 rintro mz az w5 ⟨k, n, hm7, Z, hk, hs, o6⟩
 have hsn := sum_take (M := M) k
 refine wp_seq_k fun _ k8 => wp_region_lit ?_
 refine L (r_ltI Z rfl rfl) Z rfl ?_; clear Z az; intro az Z
 refine k8 _ _ (wp_seq_k fun _ k9 => ?_)
 refine br Z rfl (fun hc10 => ?_) (fun hc10 => ?_)
 ·
  have p11 := of_decide_eq_true hc10
  refine wp_skip ?_
  refine k9 _ _ (wp_seq_k fun _ k12 => ?_)
  refine wp_block ?_
  refine wp_seq_k fun _ k13 => wp_region_lit ?_
  have hk14 : k < (M).length := by omega
  have h20 := (SliceOf.kp f1 o6 (fun _ _ h => h) (fun _ _ _ _ h => h))
  obtain ⟨m15, hm16, ok17, hA18⟩ := Row.el (KNR w) h20 hk14
  have E19 : ∀ W, Only NoF w5 W → CA W (eA A1 1 (k)) [.slice m15.A (m15.l.length) m15.c] := Row.ce (KNR w) h20 hm16 rfl
  refine L (r_ia (k := k) (size := 1) Tryz.underlying77 Tryz.sizeOf22 Z rfl rfl rfl hk14 hA18) Z rfl ?_; clear Z az; intro az Z
  refine L (r_ld Tryz.isAgg22 Z rfl (CA.first (E19 _ (Only.refl NoF w5)))) Z rfl ?_; clear Z az; intro az Z
  refine L (r_as Z rfl) Z rfl ?_; clear Z az; intro az Z
  refine k13 _ _ (wp_seq_k fun _ k21 => wp_region_lit ?_)
  refine L (r_mv Z rfl) Z rfl ?_; clear Z az; intro az Z
  refine L (r_mv Z rfl) Z rfl ?_; clear Z az; intro az Z
  refine L (r_lenL Tryz.underlying22 Z rfl) Z rfl ?_; clear Z az; intro az Z
  have h9 := sum_le hm16
  have i22 : I64 (((n : Int) + ((m15.l.length : Nat) : Int))) := by unfold I64; omega
  refine L (r_addI (r := ((n : Int) + ((m15.l.length : Nat) : Int))) Z rfl rfl rfl i22) Z rfl ?_; clear Z az; intro az Z
  refine L (r_as Z rfl) Z rfl ?_; clear Z az; intro az Z
  refine k21 _ _ (wp_seq_k fun _ k23 => wp_region_lit ?_)
  refine L (r_mv Z rfl) Z rfl ?_; clear Z az; intro az Z
  refine L (r_ltI Z rfl rfl) Z rfl ?_; clear Z az; intro az Z
  refine k23 _ _ ?_
  refine br Z rfl (fun hc24 => ?_) (fun hc24 => ?_)
  ·
   have p25 := of_decide_eq_true hc24
   exact absurd (of_decide_eq_true hc24) (by omega)
  ·
   have p26 := of_decide_eq_false hc24
   refine wp_skip ?_
   refine k12 _ _ ?_
   refine wp_region_lit ?_
   have h9 := sum_le hm16
   have i27 : I64 (((k : Int) + 1)) := by unfold I64; omega
   refine L (r_addI (r := ((k : Int) + 1)) Z rfl rfl rfl i27) Z rfl ?_; clear Z az; intro az Z
   refine L (r_mv Z rfl) Z rfl ?_; clear Z az; intro az Z
   exact ⟨_, (by omega), k + 1, _, rfl, Z.cut ⟨rfl, rfl, rfl, rfl, rfl, trivial⟩, (by omega), (by rw [hs, take_succ_get hm16, List.map_append, List.sum_append]; simp), o6⟩
 ·
  have p28 := of_decide_eq_false hc10
  refine wp_exit ?_
  refine th_exit ?_
  refine th_exit ?_
  refine ib_hit ?_
  refine k3 _ _ (wp_seq_k fun _ k29 => wp_region_lit ?_)
  refine L (r_mv Z rfl) Z rfl ?_; clear Z az; intro az Z
  refine LC Z rfl rfl Tryz.call87 (Grow_v _ (by omega)) rfl ?_
  rintro e w30 ⟨A31, c32, rfl, r33, o34⟩; refine ⟨_, rfl, ?_⟩
  clear Z az; intro az Z
  refine L (r_as Z rfl) Z rfl ?_; clear Z az; intro az Z
  refine k29 _ _ (wp_seq_k fun _ k35 => ?_)
  refine wp_seq_k fun _ k36 => wp_region_lit ?_
  refine L (r_mv Z rfl) Z rfl ?_; clear Z az; intro az Z
  refine L (r_lenL Tryz.underlying77 Z rfl) Z rfl ?_; clear Z az; intro az Z
  refine L (r_mv Z rfl) Z rfl ?_; clear Z az; intro az Z
  refine k36 _ _ ?_
  refine wp_block ?_
  refine wp_loop_m (fun mz az W => ∃ k : Nat, ∃ O : List NM, ∃ Ao : Option Addr, ∃ co : Nat, mz = M.length - k ∧ Fr 36 [(25, .slice A1 (M.length) c1), (26, .int .i64 (((M.length : Nat) : Int))), (27, .int .i64 ((k : Int))), (6, .slice Ao (O.length) co)] az ∧ (k ≤ M.length) ∧ (O = (M.take k).flatMap (·.l)) ∧ Only NoF w W ∧ W.ownsRow w.heap.size 43 5 (.slice Ao O.length co) O.length (List.flatMap KN0.cells O)) ?_ ?_
  ·
   have O37 : Only NoF w w30 := (Only.trans' o6 o34)
   exact ⟨_, 0, [], A31, c32, rfl, Z.cut ⟨rfl, rfl, rfl, rfl, trivial⟩, Nat.zero_le _, rfl, O37, (ow_low r33 (size_only o6))⟩
  clear Z az
  rintro mz az w38 ⟨k, O, Ao, co, hm40, Z, hk, hO, o39, rO⟩
  have hOl : O.length = ((M.take k).map fun m => m.l.length).sum := by rw [hO, List.length_flatMap]
  have hsn := sum_take (M := M) k
  refine wp_seq_k fun _ k41 => wp_region_lit ?_
  refine L (r_ltI Z rfl rfl) Z rfl ?_; clear Z az; intro az Z
  refine k41 _ _ (wp_seq_k fun _ k42 => ?_)
  refine br Z rfl (fun hc43 => ?_) (fun hc43 => ?_)
  ·
   have p44 := of_decide_eq_true hc43
   refine wp_skip ?_
   refine k42 _ _ (wp_seq_k fun _ k45 => ?_)
   refine wp_block ?_
   refine wp_seq_k fun _ k46 => wp_region_lit ?_
   have hk47 : k < (M).length := by omega
   have h53 := (SliceOf.kp f1 o39 (fun _ _ h => h) (fun _ _ _ _ h => h))
   obtain ⟨m48, hm49, ok50, hA51⟩ := Row.el (KNR w) h53 hk47
   have E52 : ∀ W, Only NoF w38 W → CA W (eA A1 1 (k)) [.slice m48.A (m48.l.length) m48.c] := Row.ce (KNR w) h53 hm49 rfl
   refine L (r_ia (k := k) (size := 1) Tryz.underlying77 Tryz.sizeOf22 Z rfl rfl rfl hk47 hA51) Z rfl ?_; clear Z az; intro az Z
   refine L (r_ld Tryz.isAgg22 Z rfl (CA.first (E52 _ (Only.refl NoF w38)))) Z rfl ?_; clear Z az; intro az Z
   refine L (r_as Z rfl) Z rfl ?_; clear Z az; intro az Z
   refine k46 _ _ ?_
   refine wp_region_lit ?_
   refine L (r_mv Z rfl) Z rfl ?_; clear Z az; intro az Z
   refine L (r_mv Z rfl) Z rfl ?_; clear Z az; intro az Z
   have h54 := (SliceOf.kp ok50.1 o39 (fun _ _ h => h) (fun _ _ _ _ h => h))
   have hb62 : (List.length (O) + List.length (m48.l)) * 64 ≤ 140737488355328 := by (have h9 := sum_le hm49; omega)
   obtain ⟨A55, c56, w57, hr58, r59, o60, al61⟩ := Row.app (P := Tryz.prog) (l := O) (l2 := m48.l) KN0 elemNote rO h54 hb62 (by unfold maxLen; omega) (size_only o39)
   refine L (r_app hr58 Z rfl rfl) Z rfl ?_; clear Z az; intro az Z
   have ok63 : ∀ zq ∈ (O ++ m48.l), KN0.ok zq := (fun x hx => (List.mem_append.1 hx).elim ((fun _ _ => trivial) x) ((Row.oks KN0 h54) x))
   have h64 := Row.own KN0 r59 ok63
   refine L (r_as Z rfl) Z rfl ?_; clear Z az; intro az Z
   refine k45 _ _ ?_
   refine wp_region_lit ?_
   have h9 := sum_le hm49
   have i65 : I64 (((k : Int) + 1)) := by unfold I64; omega
   refine L (r_addI (r := ((k : Int) + 1)) Z rfl rfl rfl i65) Z rfl ?_; clear Z az; intro az Z
   refine L (r_mv Z rfl) Z rfl ?_; clear Z az; intro az Z
   have O66 : Only NoF w w57 := (o_sg o39 o60 (Nat.le_refl _) (ownF_ge rO))
   exact ⟨_, (by omega), k + 1, _, A55, c56, rfl, Z.cut ⟨rfl, rfl, rfl, rfl, trivial⟩, (by omega), (by rw [hO, take_succ_get hm49, List.flatMap_append]; simp), O66, r59⟩
  ·
   have p67 := of_decide_eq_false hc43
   refine wp_exit ?_
   refine th_exit ?_
   refine th_exit ?_
   refine ib_hit ?_
   refine k35 _ _ (wp_seq_k fun _ k68 => wp_region_lit ?_)
   refine L (r_mv Z rfl) Z rfl ?_; clear Z az; intro az Z
   refine L (r_as Z rfl) Z rfl ?_; clear Z az; intro az Z
   refine k68 _ _ ?_
   refine wp_ret ?_
   show bodyPost _ _ _ .ret _ _
   refine ret_of (vs := [.slice Ao (O.length) co]) Z Tryz.results51 ⟨rfl, trivial⟩ ?_
   rw [List.take_of_length_le (by omega)] at hO; subst hO; exact ⟨_, _, rfl, rO, o39⟩
theorem eqc_v {w : World} (hG : Gr w) {p : Nat} (hB : Blk w p 97 [.func (.func 54) #[] #[]].toArray) {a b : NM} (ha : right a = true) (hb : right b = true) (oka : okN AllB w a) (okb : okN AllB w b) : Calls Tryz.prog 90 [.agg #[.int .i64 a.h, .int .i64 a.n, .int .i64 a.d, .slice a.A a.l.length a.c, strV a.s], .agg #[.int .i64 b.h, .int .i64 b.n, .int .i64 b.d, .slice b.A b.l.length b.c, strV b.s], .pointer (some ⟨p, 0, none⟩)].toArray w (Fix (.bool (decide (cmpN a b = 0))) w) := by
 refine calls_start Tryz.func90 rfl rfl ?_
 intro az Z
 rw [Tryz.ntmps90] at Z
 refine wp_seq_k fun _ k1 => wp_region_lit ?_
 refine LBox Z rfl rfl rfl ?_
 clear Z az; intro g2 w3 hg6 hl7 o4 B5 az Z
 refine LBox Z rfl rfl rfl ?_
 clear Z az; intro g8 w9 hg12 hl13 o10 B11 az Z
 refine L (r_as Z rfl) Z rfl ?_; clear Z az; intro az Z
 refine k1 _ _ (wp_seq_k fun _ k14 => wp_region_lit ?_)
 have B15 := (Blk.k (Blk.k hB o4) o10)
 refine L (r_ld Tryz.isAgg97 Z rfl (CA.first (Blk.ca B15))) Z rfl ?_; clear Z az; intro az Z
 have B16 := (Blk.k B5 o10)
 refine L (r_ldA Tryz.isAgg95 Tryz.sizeOf95 Z rfl (Blk.ca B16) rfl) Z rfl ?_; clear Z az; intro az Z
 refine L (r_ldA Tryz.isAgg95 Tryz.sizeOf95 Z rfl (Blk.ca B11) rfl) Z rfl ?_; clear Z az; intro az Z
 have O18 : Only NoF w w9 := (Only.trans' o4 o10)
 have G17 := Gr.k hG O18
 refine LCV (v := .int .i64 (cmpN a b)) Z rfl rfl Tryz.call54 (cmp_v G17 ha hb (okN.k oka O18) (okN.k okb O18)) rfl fun w19 o20 => ?_; clear Z az; intro az Z
 refine L (r_eqI Z rfl rfl) Z rfl ?_; clear Z az; intro az Z
 refine L (r_as Z rfl) Z rfl ?_; clear Z az; intro az Z
 refine k14 _ _ ?_
 refine wp_ret ?_
 show bodyPost _ _ _ .ret _ _
 refine ret_of (vs := [.bool (decide (cmpN a b = 0))]) Z Tryz.results90 ⟨rfl, trivial⟩ ?_
 have O21 : Only NoF w w19 := (Only.trans' O18 o20)
 exact ⟨rfl, O21⟩
theorem cmpct_s_ {w : World} {Ls : List NM} {A1 : Option Addr} {c1 p : Nat} (hn : Ls.length < 2) : Calls Tryz.prog 89 [.slice A1 Ls.length c1, .func (.func 90) #[] [.pointer (some ⟨p, 0, none⟩)].toArray].toArray w (Fix (.slice A1 Ls.length c1) w) := by
 refine calls_start Tryz.func89 rfl rfl ?_
 intro az Z
 rw [Tryz.ntmps89] at Z
 refine wp_seq_k fun _ k1 => wp_region_lit ?_
 refine L (r_as Z rfl) Z rfl ?_; clear Z az; intro az Z
 refine k1 _ _ (wp_seq_k fun _ k2 => ?_)
 refine wp_seq_k fun _ k3 => wp_region_lit ?_
 refine L (r_mv Z rfl) Z rfl ?_; clear Z az; intro az Z
 refine L (r_lenL Tryz.underlying60 Z rfl) Z rfl ?_; clear Z az; intro az Z
 refine L (r_ltI Z rfl rfl) Z rfl ?_; clear Z az; intro az Z
 refine k3 _ _ ?_
 refine br Z rfl (fun hc4 => ?_) (fun hc4 => ?_)
 ·
  have p5 := of_decide_eq_true hc4
  refine wp_seq_k fun _ k6 => wp_region_lit ?_
  refine L (r_mv Z rfl) Z rfl ?_; clear Z az; intro az Z
  refine L (r_as Z rfl) Z rfl ?_; clear Z az; intro az Z
  refine k6 _ _ ?_
  refine wp_ret ?_
  show bodyPost _ _ _ .ret _ _
  refine ret_of (vs := [.slice A1 (Ls.length) c1]) Z Tryz.results89 ⟨rfl, trivial⟩ ?_
  exact ⟨rfl, (Only.refl NoF w)⟩
 ·
  have p7 := of_decide_eq_false hc4
  exact absurd (of_decide_eq_false hc4) (by omega)
theorem cmpct_v_ {w : World} (hG : Gr w) {g cap p base : Nat} (h6 : 6 ≤ g) (hB : Blk w p 97 [.func (.func 54) #[] #[]].toArray) (hpg : p ≠ g) {Ls : List NM} (rO : w.ownsRow base 95 5 (.slice (some ⟨g, 0, none⟩) Ls.length cap) Ls.length (List.flatMap KN0.cells Ls)) (hok : OkNs (fun k => ¬ oneF g k) w Ls) (hr : ∀ m ∈ Ls, right m = true) (hl : Ls.length ≤ 1000000) (hn : 2 ≤ Ls.length) : Calls Tryz.prog 89 [.slice (some ⟨g, 0, none⟩) Ls.length cap, .func (.func 90) #[] [.pointer (some ⟨p, 0, none⟩)].toArray].toArray w (CompTo g base cap Ls w) := by
 have hcl := ow_cap rO
 refine calls_start Tryz.func89 rfl rfl ?_
 intro az Z
 rw [Tryz.ntmps89] at Z
 refine wp_seq_k fun _ k1 => wp_region_lit ?_
 refine L (r_as Z rfl) Z rfl ?_; clear Z az; intro az Z
 refine k1 _ _ (wp_seq_k fun _ k2 => ?_)
 refine wp_seq_k fun _ k3 => wp_region_lit ?_
 refine L (r_mv Z rfl) Z rfl ?_; clear Z az; intro az Z
 refine L (r_lenL Tryz.underlying60 Z rfl) Z rfl ?_; clear Z az; intro az Z
 refine L (r_ltI Z rfl rfl) Z rfl ?_; clear Z az; intro az Z
 refine k3 _ _ ?_
 refine br Z rfl (fun hc4 => ?_) (fun hc4 => ?_)
 ·
  have p5 := of_decide_eq_true hc4
  exact absurd (of_decide_eq_true hc4) (by omega)
 ·
  have p6 := of_decide_eq_false hc4
  refine wp_skip ?_
  refine k2 _ _ (wp_seq_k fun _ k7 => ?_)
  refine wp_seq_k fun _ k8 => wp_region_lit ?_
  refine L (r_as Z rfl) Z rfl ?_; clear Z az; intro az Z
  refine k8 _ _ ?_
  refine wp_block ?_
  refine wp_loop_m (fun mz az W => ∃ k : Nat, mz = Ls.length - k ∧ Fr 66 [(0, .slice (some ⟨g, 0, none⟩) (Ls.length) cap), (1, .func (.func 90) #[] [.pointer (some ⟨p, 0, none⟩)].toArray), (5, .int .i64 ((k : Int)))] az ∧ (1 ≤ k ∧ k ≤ Ls.length) ∧ (compactN (Ls.take k) = Ls.take k) ∧ Only NoF w W) ?_ ?_
  ·
   exact ⟨_, 1, rfl, Z.cut ⟨rfl, rfl, rfl, trivial⟩, (by omega), (comp_short (by rw [List.length_take]; omega)), (Only.refl NoF w)⟩
  clear Z az
  rintro mz az w9 ⟨k, hm11, Z, hk, hL, o10⟩
  refine wp_seq_k fun _ k12 => ?_
  refine wp_seq_k fun _ k13 => wp_region_lit ?_
  refine L (r_mv Z rfl) Z rfl ?_; clear Z az; intro az Z
  refine L (r_mv Z rfl) Z rfl ?_; clear Z az; intro az Z
  refine L (r_lenL Tryz.underlying60 Z rfl) Z rfl ?_; clear Z az; intro az Z
  refine L (r_ltI Z rfl rfl) Z rfl ?_; clear Z az; intro az Z
  refine k13 _ _ ?_
  refine br Z rfl (fun hc14 => ?_) (fun hc14 => ?_)
  ·
   have p15 := of_decide_eq_true hc14
   refine wp_skip ?_
   refine k12 _ _ (wp_seq_k fun _ k16 => ?_)
   refine wp_block ?_
   refine wp_seq_k fun _ k17 => ?_
   refine reg_p NoF 1 [10] (.rd 0 (.rd 1 (.rd 2 (.rd 3 (.rd 4 (.rd 5 (.rd 6 (.rd 7 (.rd 8 (.rd 9 (.ex 10 .nil))))))))))) (by kernel_rfl) (by kernel_rfl) (fun _ _ _ _ _ h => h) fun w18 o19 => ?_
   refine Pl.MSP (b := true) (by kernel_rfl) (fun W oW => r_mv Z rfl) Z rfl rfl ?_; clear Z az; intro az Z
   refine Pl.MSP (b := true) (by kernel_rfl) (fun W oW => r_mv Z rfl) Z rfl rfl ?_; clear Z az; intro az Z
   refine Pl.MSP (b := true) (by kernel_rfl) (fun W oW => r_mv Z rfl) Z rfl rfl ?_; clear Z az; intro az Z
   have O21 : Only NoF w w18 := (Only.trans' o10 o19)
   have r20 := ow_k rO O21
   have h22 := own_lenE r20 rfl
   have hk23 : k < Ls.length := by omega
   have hk24 : k < (Ls).length := by omega
   obtain ⟨m25, hm26, ok27, hA28⟩ := Row.el KN0 h22 hk24
   have E29 : ∀ W, Only NoF w18 W → CA W (eA (some ⟨g, 0, none⟩) 5 (k)) [.int .i64 (m25.h), .int .i64 (m25.n), .int .i64 (m25.d), .slice m25.A (m25.l.length) m25.c, strV (m25.s)] := Row.ce KN0 h22 hm26 rfl
   refine Pl.MSP (b := true) (by kernel_rfl) (fun W oW => r_ia (k := k) (size := 5) Tryz.underlying60 Tryz.sizeOf95 Z rfl rfl rfl hk23 hA28) Z rfl rfl ?_; clear Z az; intro az Z
   refine Pl.MSP (b := true) (by kernel_rfl) (fun W oW => r_ldA Tryz.isAgg95 Tryz.sizeOf95 Z rfl (E29 _ (Only.trans' (Only.refl NoF w18) oW)) rfl) Z rfl rfl ?_; clear Z az; intro az Z
   refine Pl.MSP (b := true) (by kernel_rfl) (fun W oW => r_mv Z rfl) Z rfl rfl ?_; clear Z az; intro az Z
   refine Pl.MSP (b := true) (by kernel_rfl) (fun W oW => r_mv Z rfl) Z rfl rfl ?_; clear Z az; intro az Z
   have i30 : I64 (((k : Int) - 1)) := by unfold I64; omega
   refine Pl.MSP (b := true) (by kernel_rfl) (fun W oW => r_subI (r := ((k : Int) - 1)) Z rfl rfl rfl i30) Z rfl rfl ?_; clear Z az; intro az Z
   have h31 := own_lenE r20 rfl
   have hk32 : (k - 1) < Ls.length := by omega
   have hk33 : (k - 1) < (Ls).length := by omega
   obtain ⟨m34, hm35, ok36, hA37⟩ := Row.el KN0 h31 hk33
   have E38 : ∀ W, Only NoF w18 W → CA W (eA (some ⟨g, 0, none⟩) 5 ((k - 1))) [.int .i64 (m34.h), .int .i64 (m34.n), .int .i64 (m34.d), .slice m34.A (m34.l.length) m34.c, strV (m34.s)] := Row.ce KN0 h31 hm35 rfl
   refine Pl.MSP (b := true) (by kernel_rfl) (fun W oW => r_ia (k := (k - 1)) (size := 5) Tryz.underlying60 Tryz.sizeOf95 Z rfl rfl (by omega) hk32 hA37) Z rfl rfl ?_; clear Z az; intro az Z
   refine Pl.MSP (b := true) (by kernel_rfl) (fun W oW => r_ldA Tryz.isAgg95 Tryz.sizeOf95 Z rfl (E38 _ (Only.trans' (Only.refl NoF w18) oW)) rfl) Z rfl rfl ?_; clear Z az; intro az Z
   have G41 := Gr.only hG (Only.trans (Only.trans (Only.refl (oneF g) w) o10 (fun _ h => h.elim)) o19 (fun _ h => h.elim)) (fun k hk => by rw [show k = g from hk]; exact h6)
   have B42 := (Blk.k (Blk.k hB o10) o19)
   refine Pl.MSCC Z rfl rfl rfl Tryz.call90 (eqc_v G41 B42 (hr _ (List.mem_of_getElem? hm26)) (hr _ (List.mem_of_getElem? hm35)) (okN.pl (okN.only (hok _ (List.mem_of_getElem? hm26)) (Only.trans (Only.trans (Only.refl (oneF g) w) o10 (fun _ h => h.elim)) o19 (fun _ h => h.elim)) (fun _ hk h => hk h))) (okN.pl (okN.only (hok _ (List.mem_of_getElem? hm35)) (Only.trans (Only.trans (Only.refl (oneF g) w) o10 (fun _ h => h.elim)) o19 (fun _ h => h.elim)) (fun _ hk h => hk h)))) rfl ?_
   rintro e w39 ⟨rfl, o40⟩
   refine ⟨_, rfl, ⟨fun _ => o40, (Only.trans (Only.refl NoF w18) o40 (fun _ h => h.elim))⟩, ?_⟩
   clear Z az; intro az Z
   refine wpPl_nil ?_
   refine k17 _ _ ?_
   refine br Z rfl (fun hc43 => ?_) (fun hc43 => ?_)
   ·
    have p44 := of_decide_eq_true hc43
    refine wp_seq_k fun _ k45 => wp_region_lit ?_
    refine L (r_mv Z rfl) Z rfl ?_; clear Z az; intro az Z
    refine L (r_mv Z rfl) Z rfl ?_; clear Z az; intro az Z
    refine L (r_slD (lo := k) (m := (List.drop k Ls).length) (size := 5) Tryz.underlying60 Tryz.sizeOf95 Z rfl rfl rfl (by omega) List.length_drop.symm) Z rfl ?_; clear Z az; intro az Z
    refine L (r_as Z rfl) Z rfl ?_; clear Z az; intro az Z
    refine k45 _ _ (wp_seq_k fun _ k46 => ?_)
    refine wp_seq_k fun _ k47 => wp_region_lit ?_
    refine L (r_as Z rfl) Z rfl ?_; clear Z az; intro az Z
    refine k47 _ _ ?_
    refine wp_block ?_
    refine wp_loop_m (fun mz az W => ∃ O : List NM, ∃ j : Nat, ∃ q : Nat, mz = Ls.length - (k + q) ∧ Fr 66 [(0, .slice (some ⟨g, 0, none⟩) (Ls.length) cap), (1, .func (.func 90) #[] [.pointer (some ⟨p, 0, none⟩)].toArray), (6, .slice (slA (some ⟨g, 0, none⟩) cap k 5) ((List.drop k Ls).length) (cap - k)), (5, .int .i64 ((j : Int))), (7, .int .i64 ((q : Int)))] az ∧ (O.length = Ls.length) ∧ (1 ≤ q ∧ k + q ≤ Ls.length ∧ j + 1 ≤ k + q) ∧ (∀ i, k + q ≤ i + 1 → O[i]? = Ls[i]?) ∧ (O.take j = compactN (Ls.take (k + q))) ∧ Only (oneF g) w W ∧ W.ownsRow base 95 5 (.slice (some ⟨g, 0, none⟩) Ls.length cap) Ls.length (List.flatMap KN0.cells O) ∧ Blk W p 97 [.func (.func 54) #[] #[]].toArray) ?_ ?_
    ·
     have r48 := ow_k r20 o40
     have B49 := (Blk.k B42 o40)
     exact ⟨_, Ls, k, 1, rfl, Z.cut ⟨rfl, rfl, rfl, rfl, rfl, trivial⟩, rfl, (by omega), (fun _ _ => rfl), (cp_hit hm35 hm26 (by omega) hL hc43), (Only.trans (Only.trans (Only.trans (Only.refl (oneF g) w) o10 (fun _ h => h.elim)) o19 (fun _ h => h.elim)) o40 (fun _ h => h.elim)), r48, B49⟩
    clear Z az
    rintro mz az w50 ⟨O, j, q, hm52, Z, hOl, hjq, hO, hT, o51, rO1, hB1⟩
    have hdl : (List.drop k Ls).length = Ls.length - k := List.length_drop
    have hdO : (List.drop k O).length = O.length - k := List.length_drop
    refine wp_seq_k fun _ k53 => ?_
    refine wp_seq_k fun _ k54 => wp_region_lit ?_
    refine L (r_mv Z rfl) Z rfl ?_; clear Z az; intro az Z
    refine L (r_mv Z rfl) Z rfl ?_; clear Z az; intro az Z
    refine L (r_lenL Tryz.underlying60 Z rfl) Z rfl ?_; clear Z az; intro az Z
    refine L (r_ltI Z rfl rfl) Z rfl ?_; clear Z az; intro az Z
    refine k54 _ _ ?_
    refine br Z rfl (fun hc55 => ?_) (fun hc55 => ?_)
    ·
     have p56 := of_decide_eq_true hc55
     refine wp_skip ?_
     refine k53 _ _ (wp_seq_k fun _ k57 => ?_)
     refine wp_block ?_
     refine wp_seq_k fun _ k58 => ?_
     refine reg_p NoF 1 [10] (.rd 0 (.rd 1 (.rd 2 (.rd 3 (.rd 4 (.rd 5 (.rd 6 (.rd 7 (.rd 8 (.rd 9 (.ex 10 (.rd 11 .nil)))))))))))) (by kernel_rfl) (by kernel_rfl) (fun _ _ _ _ _ h => h) fun w59 o60 => ?_
     refine Pl.MSP (b := true) (by kernel_rfl) (fun W oW => r_mv Z rfl) Z rfl rfl ?_; clear Z az; intro az Z
     refine Pl.MSP (b := true) (by kernel_rfl) (fun W oW => r_mv Z rfl) Z rfl rfl ?_; clear Z az; intro az Z
     refine Pl.MSP (b := true) (by kernel_rfl) (fun W oW => r_mv Z rfl) Z rfl rfl ?_; clear Z az; intro az Z
     have r61 := ow_k rO1 o60
     have h62 := own_lenE r61 hOl
     have h63 := SliceOf.sub (lo := k) (m := (List.drop k O).length) h62 (by rw [hOl]) (by rw [List.length_drop]; omega)
     rw [List.take_length] at h63
     have hk64 : q < (List.drop k Ls).length := by omega
     have hk65 : q < (List.drop k O).length := by omega
     obtain ⟨m66, hm67, ok68, hA69⟩ := Row.el KN0 h63 hk65
     have E70 : ∀ W, Only NoF w59 W → CA W (eA (slA (some ⟨g, 0, none⟩) cap k 5) 5 (q)) [.int .i64 (m66.h), .int .i64 (m66.n), .int .i64 (m66.d), .slice m66.A (m66.l.length) m66.c, strV (m66.s)] := Row.ce KN0 h63 hm67 rfl
     refine Pl.MSP (b := true) (by kernel_rfl) (fun W oW => r_ia (k := q) (size := 5) Tryz.underlying60 Tryz.sizeOf95 Z rfl rfl rfl hk64 hA69) Z rfl rfl ?_; clear Z az; intro az Z
     refine Pl.MSP (b := true) (by kernel_rfl) (fun W oW => r_ldA Tryz.isAgg95 Tryz.sizeOf95 Z rfl (E70 _ (Only.trans' (Only.refl NoF w59) oW)) rfl) Z rfl rfl ?_; clear Z az; intro az Z
     refine Pl.MSP (b := true) (by kernel_rfl) (fun W oW => r_mv Z rfl) Z rfl rfl ?_; clear Z az; intro az Z
     refine Pl.MSP (b := true) (by kernel_rfl) (fun W oW => r_mv Z rfl) Z rfl rfl ?_; clear Z az; intro az Z
     have i71 : I64 (((q : Int) - 1)) := by unfold I64; omega
     refine Pl.MSP (b := true) (by kernel_rfl) (fun W oW => r_subI (r := ((q : Int) - 1)) Z rfl rfl rfl i71) Z rfl rfl ?_; clear Z az; intro az Z
     have h72 := own_lenE r61 hOl
     have h73 := SliceOf.sub (lo := k) (m := (List.drop k O).length) h72 (by rw [hOl]) (by rw [List.length_drop]; omega)
     rw [List.take_length] at h73
     have hk74 : (q - 1) < (List.drop k Ls).length := by omega
     have hk75 : (q - 1) < (List.drop k O).length := by omega
     obtain ⟨m76, hm77, ok78, hA79⟩ := Row.el KN0 h73 hk75
     have E80 : ∀ W, Only NoF w59 W → CA W (eA (slA (some ⟨g, 0, none⟩) cap k 5) 5 ((q - 1))) [.int .i64 (m76.h), .int .i64 (m76.n), .int .i64 (m76.d), .slice m76.A (m76.l.length) m76.c, strV (m76.s)] := Row.ce KN0 h73 hm77 rfl
     refine Pl.MSP (b := true) (by kernel_rfl) (fun W oW => r_ia (k := (q - 1)) (size := 5) Tryz.underlying60 Tryz.sizeOf95 Z rfl rfl (by omega) hk74 hA79) Z rfl rfl ?_; clear Z az; intro az Z
     refine Pl.MSP (b := true) (by kernel_rfl) (fun W oW => r_ldA Tryz.isAgg95 Tryz.sizeOf95 Z rfl (E80 _ (Only.trans' (Only.refl NoF w59) oW)) rfl) Z rfl rfl ?_; clear Z az; intro az Z
     have G83 := Gr.only hG (Only.trans (Only.trans (Only.refl (oneF g) w) o51 (fun _ h => .inl h)) o60 (fun _ h => h.elim)) (fun k hk => by rw [show k = g from hk]; exact h6)
     have B84 := (Blk.k hB1 o60)
     refine Pl.MSCC Z rfl rfl rfl Tryz.call90 (eqc_v G83 B84 (hr _ (List.mem_of_getElem? ((hO (k + q) (by omega)).symm.trans (cp_drop hm67)))) (hr _ (List.mem_of_getElem? ((hO (k + (q - 1)) (by omega)).symm.trans (cp_drop hm77)))) (okN.pl (okN.only (hok _ (List.mem_of_getElem? ((hO (k + q) (by omega)).symm.trans (cp_drop hm67)))) (Only.trans (Only.trans (Only.refl (oneF g) w) o51 (fun _ h => .inl h)) o60 (fun _ h => h.elim)) (fun _ hk h => hk h))) (okN.pl (okN.only (hok _ (List.mem_of_getElem? ((hO (k + (q - 1)) (by omega)).symm.trans (cp_drop hm77)))) (Only.trans (Only.trans (Only.refl (oneF g) w) o51 (fun _ h => .inl h)) o60 (fun _ h => h.elim)) (fun _ hk h => hk h)))) rfl ?_
     rintro e w81 ⟨rfl, o82⟩
     refine ⟨_, rfl, ⟨fun _ => o82, (Only.trans (Only.refl NoF w59) o82 (fun _ h => h.elim))⟩, ?_⟩
     clear Z az; intro az Z
     refine Pl.MSP (b := true) (by kernel_rfl) (fun W oW => r_not Z rfl) Z rfl rfl ?_; clear Z az; intro az Z
     refine wpPl_nil ?_
     refine k58 _ _ ?_
     refine br Z rfl (fun hc85 => ?_) (fun hc85 => ?_)
     ·
      have p86 := of_decide_eq_false (nt_t hc85)
      refine wp_seq_k fun _ k87 => wp_region_lit ?_
      refine L (r_mv Z rfl) Z rfl ?_; clear Z az; intro az Z
      refine L (r_mv Z rfl) Z rfl ?_; clear Z az; intro az Z
      refine L (r_mv Z rfl) Z rfl ?_; clear Z az; intro az Z
      refine L (r_mv Z rfl) Z rfl ?_; clear Z az; intro az Z
      have r88 := ow_k r61 o82
      have h89 := own_lenE r88 hOl
      have h90 := SliceOf.sub (lo := k) (m := (List.drop k O).length) h89 (by rw [hOl]) (by rw [List.length_drop]; omega)
      rw [List.take_length] at h90
      refine L (r_ia (k := q) (size := 5) Tryz.underlying60 Tryz.sizeOf95 Z rfl rfl rfl hk64 hA69) Z rfl ?_; clear Z az; intro az Z
      refine L (r_ldA Tryz.isAgg95 Tryz.sizeOf95 Z rfl (E70 _ o82) rfl) Z rfl ?_; clear Z az; intro az Z
      have h91 := own_lenE r88 hOl
      have hk92 : j < Ls.length := by omega
      have hk93 : j < (O).length := by omega
      obtain ⟨m94, hm95, ok96, hA97⟩ := Row.el KN0 h91 hk93
      have E98 : ∀ W, Only NoF w81 W → CA W (eA (some ⟨g, 0, none⟩) 5 (j)) [.int .i64 (m94.h), .int .i64 (m94.n), .int .i64 (m94.d), .slice m94.A (m94.l.length) m94.c, strV (m94.s)] := Row.ce KN0 h91 hm95 rfl
      refine L (r_ia (k := j) (size := 5) Tryz.underlying60 Tryz.sizeOf95 Z rfl rfl rfl hk92 hA97) Z rfl ?_; clear Z az; intro az Z
      refine LStA (size := 5) (k := j) Tryz.sizeOf95 Z rfl rfl rfl rfl rfl (KN0.one m66 |> fun h => ⟨rfl, rfl, rfl, rfl, rfl, trivial⟩) r88 (by omega) fun w99 o100 r101 => ?_
      have r102 : w99.ownsRow base 95 5 (.slice (some ⟨g, 0, none⟩) Ls.length cap) Ls.length (List.flatMap KN0.cells (O.set j m66)) := by rw [← flat_splice (m' := m66) hm95]; exact r101
      refine k87 _ _ ?_
      refine wp_region_lit ?_
      refine L (r_mv Z rfl) Z rfl ?_; clear Z az; intro az Z
      have i103 : I64 (((j : Int) + 1)) := by unfold I64; omega
      refine L (r_addI (r := ((j : Int) + 1)) Z rfl rfl rfl i103) Z rfl ?_; clear Z az; intro az Z
      refine L (r_as Z rfl) Z rfl ?_; clear Z az; intro az Z
      refine k57 _ _ ?_
      refine wp_region_lit ?_
      refine L (r_mv Z rfl) Z rfl ?_; clear Z az; intro az Z
      have i104 : I64 (((q : Int) + 1)) := by unfold I64; omega
      refine L (r_addI (r := ((q : Int) + 1)) Z rfl rfl rfl i104) Z rfl ?_; clear Z az; intro az Z
      refine L (r_as Z rfl) Z rfl ?_; clear Z az; intro az Z
      have hq1 : Ls[k + q]? = some m66 := (hO (k + q) (by omega)).symm.trans (cp_drop hm67)
      have hq0 : Ls[k + q - 1]? = some m76 := by rw [show k + q - 1 = k + (q - 1) by omega]; exact (hO (k + (q - 1)) (by omega)).symm.trans (cp_drop hm77)
      have B105 := (Blk.st (Blk.k B84 o82) o100 hpg)
      exact ⟨_, (by omega), (O.set j m66), (j + 1), (q + 1), rfl, Z.cut ⟨rfl, rfl, rfl, rfl, rfl, trivial⟩, (by rw [List.length_set]; exact hOl), (by omega), (cp_set hO (by omega)), (cp_no (by omega) hq0 hq1 (by omega) hT hc85), (Only.trans (Only.trans (Only.trans (Only.trans (Only.refl (oneF g) w) o51 (fun _ h => .inl h)) o60 (fun _ h => h.elim)) o82 (fun _ h => h.elim)) o100 (fun _ h => .inl h)), r102, B105⟩
     ·
      have p106 := of_decide_eq_true (nt_f hc85)
      refine wp_skip ?_
      refine k57 _ _ ?_
      refine wp_region_lit ?_
      refine L (r_mv Z rfl) Z rfl ?_; clear Z az; intro az Z
      have i107 : I64 (((q : Int) + 1)) := by unfold I64; omega
      refine L (r_addI (r := ((q : Int) + 1)) Z rfl rfl rfl i107) Z rfl ?_; clear Z az; intro az Z
      refine L (r_as Z rfl) Z rfl ?_; clear Z az; intro az Z
      have hq1 : Ls[k + q]? = some m66 := (hO (k + q) (by omega)).symm.trans (cp_drop hm67)
      have hq0 : Ls[k + q - 1]? = some m76 := by rw [show k + q - 1 = k + (q - 1) by omega]; exact (hO (k + (q - 1)) (by omega)).symm.trans (cp_drop hm77)
      have r108 := ow_k r61 o82
      have B109 := (Blk.k B84 o82)
      exact ⟨_, (by omega), O, j, (q + 1), rfl, Z.cut ⟨rfl, rfl, rfl, rfl, rfl, trivial⟩, hOl, (by omega), (fun i hi => hO i (by omega)), (cp_yes (by omega) hq0 hq1 hT hc85), (Only.trans (Only.trans (Only.trans (Only.refl (oneF g) w) o51 (fun _ h => .inl h)) o60 (fun _ h => h.elim)) o82 (fun _ h => h.elim)), r108, B109⟩
    ·
     have p110 := of_decide_eq_false hc55
     refine wp_exit ?_
     refine th_exit ?_
     refine th_exit ?_
     refine ib_hit ?_
     refine k46 _ _ (wp_seq_k fun _ k111 => wp_region_lit ?_)
     refine L (r_mv Z rfl) Z rfl ?_; clear Z az; intro az Z
     refine L (r_mv Z rfl) Z rfl ?_; clear Z az; intro az Z
     refine L (r_slD (lo := j) (m := Ls.length - j) (size := 5) Tryz.underlying60 Tryz.sizeOf95 Z rfl rfl rfl (by omega) rfl) Z rfl ?_; clear Z az; intro az Z
     refine LClr (size := 5) (n' := Ls.length) (j := j) Tryz.underlying60 Tryz.zeroValue95 rfl (by decide) Z rfl rfl rO1 (by omega) fun w112 o113 r114 => ?_
     rw [flat_take] at r114
     refine k111 _ _ (wp_seq_k fun _ k115 => wp_region_lit ?_)
     refine L (r_mv Z rfl) Z rfl ?_; clear Z az; intro az Z
     refine L (r_mv Z rfl) Z rfl ?_; clear Z az; intro az Z
     refine L (r_slh (m := j) (size := 5) Tryz.underlying60 Tryz.sizeOf95 Z rfl rfl rfl (by omega)) Z rfl ?_; clear Z az; intro az Z
     refine L (r_as Z rfl) Z rfl ?_; clear Z az; intro az Z
     refine k115 _ _ ?_
     refine wp_ret ?_
     show bodyPost _ _ _ .ret _ _
     refine ret_of (vs := [.slice (slA (some ⟨g, 0, none⟩) cap 0 5) (j) cap]) Z Tryz.results89 ⟨rfl, trivial⟩ ?_
     rw [List.take_of_length_le (l := Ls) (by simp only [List.length_drop, decide_eq_false_iff_not] at hc55; omega)] at hT
     have hjl : j = (compactN Ls).length := by rw [← hT, List.length_take]; omega
     unfold CompTo; rw [slA0, ← hjl, ← hT]; exact ⟨rfl, r114, (Only.trans (Only.trans (Only.refl (oneF g) w) o51 (fun _ h => .inl h)) o113 (fun _ h => .inl h))⟩
   ·
    have p116 := of_decide_eq_false hc43
    refine wp_skip ?_
    refine k16 _ _ ?_
    refine wp_region_lit ?_
    refine L (r_mv Z rfl) Z rfl ?_; clear Z az; intro az Z
    have i117 : I64 (((k : Int) + 1)) := by unfold I64; omega
    refine L (r_addI (r := ((k : Int) + 1)) Z rfl rfl rfl i117) Z rfl ?_; clear Z az; intro az Z
    refine L (r_as Z rfl) Z rfl ?_; clear Z az; intro az Z
    have O118 : Only NoF w w39 := (Only.trans' O21 o40)
    exact ⟨_, (by omega), k + 1, rfl, Z.cut ⟨rfl, rfl, rfl, trivial⟩, (by omega), (cp_stop hm35 hm26 (by omega) hL hc43), O118⟩
  ·
   have p119 := of_decide_eq_false hc14
   refine wp_exit ?_
   refine th_exit ?_
   refine th_exit ?_
   refine ib_hit ?_
   refine k7 _ _ (wp_seq_k fun _ k120 => wp_region_lit ?_)
   refine L (r_mv Z rfl) Z rfl ?_; clear Z az; intro az Z
   refine L (r_as Z rfl) Z rfl ?_; clear Z az; intro az Z
   refine k120 _ _ ?_
   refine wp_ret ?_
   show bodyPost _ _ _ .ret _ _
   refine ret_of (vs := [.slice (some ⟨g, 0, none⟩) (Ls.length) cap]) Z Tryz.results89 ⟨rfl, trivial⟩ ?_
   have r121 := ow_k rO o10
   rw [List.take_of_length_le (by omega)] at hL; unfold CompTo; rw [hL]; exact ⟨rfl, r121, (Only.trans (Only.refl (oneF g) w) o10 (fun _ h => h.elim))⟩
end
section
open Go.RowKit
section
variable {w w' : World} {p base : Nat} {v : Value} {L : List NM} {A : Option Addr} {c : Nat}
def CompTo2 (A : Option Addr) (c base : Nat) (L : List NM) (w : World) (e : Ending) (w' : World) : Prop := e = .returned (.slice A (compactN L).length c) ∧ w'.ownsRow base 95 5 (.slice A (compactN L).length c) (compactN L).length ((compactN L).flatMap KN0.cells) ∧ Only (ownF (.slice A L.length c)) w w'
theorem cmpct_v (hG : Gr w) (h6 : 6 ≤ base) (hB : Blk w p 97 [.func (.func 54) #[] #[]].toArray) (hp : ¬ ownF (.slice A L.length c) p) (rO : w.ownsRow base 95 5 (.slice A L.length c) L.length (L.flatMap KN0.cells)) (hok : OkNs (fun k => ¬ ownF (.slice A L.length c) k) w L) (hr : ∀ m ∈ L, right m = true) (hl : L.length ≤ 1000000) :
 Calls Tryz.prog 89 [.slice A L.length c, .func (.func 90) #[] [.pointer (some ⟨p, 0, none⟩)].toArray].toArray w (CompTo2 A c base L w) := by
 by_cases hn : L.length < 2
 · refine (cmpct_s_ hn).mono ?_
   rintro e w' ⟨rfl, o⟩
   unfold CompTo2
   rw [comp_short hn]
   exact ⟨rfl, ow_k rO o, o.mono fun _ h => h.elim⟩
 · obtain ⟨g, rfl, hg⟩ : ∃ g, A = some ⟨g, 0, none⟩ ∧ base ≤ g := by
    obtain ⟨_, ⟨h0, h1⟩ | ⟨g, cap, cur, h0, hb, _⟩⟩ := rO
    · omega
    · injection h0 with h0
      exact ⟨g, h0, hb⟩
   have hF : (oneF g) = ownF (.slice (some ⟨g, 0, none⟩) L.length c) := by
    funext x
    unfold oneF ownF Value.ownBlock
    simp [eq_comm]
   refine (cmpct_v_ hG (by omega) hB (fun e => hp (by rw [← hF]; exact e)) rO (by rw [hF]; exact hok) hr hl (by omega)).mono ?_
   rintro e w' ⟨rfl, h1, h2⟩
   exact ⟨rfl, h1, by rw [← hF]; exact h2⟩
def SrtTo (A : Option Addr) (c base : Nat) (L : List NM) (w : World) (e : Ending) (w' : World) : Prop := ∃ L' : List NM, e = .returned (.slice A L'.length c) ∧ L'.map ns = joinN L ∧ (∀ m ∈ L', m ∈ L) ∧ w'.ownsRow base 95 5 (.slice A L'.length c) L'.length (L'.flatMap KN0.cells) ∧ Only (ownF (.slice A L.length c)) w w'
def ItemsTo (L : List NM) (w : World) (e : Ending) (w' : World) : Prop := ∃ A c, ∃ L' : List NM, e = .returned (.slice A L'.length c) ∧ L'.map ns = joinN L ∧ w'.ownsRow w.heap.size 95 5 (.slice A L'.length c) L'.length (L'.flatMap KN0.cells) ∧ OkNs (fun k => w.heap.size ≤ k ∧ ¬ ownF (.slice A L'.length c) k) w' L' ∧ Only NoF w w'
def RowTo (L : List NM) (w : World) (e : Ending) (w' : World) : Prop := ∃ A c, e = .returned (.slice A L.length c) ∧ w'.ownsRow w.heap.size 43 5 (.slice A L.length c) L.length (L.flatMap KN0.cells) ∧ Only NoF w w'
/-- a list of notes that comes back: all of it is new -/
def NOut (N : List NM) (w : World) (e : Ending) (w' : World) : Prop := ∃ A c, ∃ L : List NM, e = .returned (.slice A L.length c) ∧ L.map ns = N ∧ SliceOf (geB w.heap.size) 5 KN0.R w' (.slice A L.length c) L ∧ OkNs (geB w.heap.size) w' L ∧ Only NoF w w'
theorem nrs_up {W : World} {M : List NR} (h : SliceOf AllB 1 (KNR w).R W v M) (o : Only NoF w w') : SliceOf AllB 1 (KNR w').R W v M :=
 SliceOf.only h (Only.refl NoF W) (fun _ _ h => h) fun cs x _ hR => ⟨hR.1, hR.2.k o⟩
theorem clone_okG {A : Option Addr} {c b : Nat} {m : NM} (h : okN AllB w m) (hr : w'.ownsRow b 59 2 (.slice A m.l.length c) m.l.length (m.l.flatMap KRef.cells)) : okN (geB b) w' ⟨m.h, m.n, m.d, A, m.l, c, m.s⟩ :=
 ⟨h.1, h.2.1, h.2.2.1, Row.own KRef hr (Row.oks KRef h.2.2.2.1), h.2.2.2.2⟩
theorem okN.lt2 {w : World} {m : NM} {b : Nat} (h : okN (geB b) w m) : okN (fun k => b ≤ k ∧ k < w.heap.size) w m := by
 obtain ⟨h1, h2, h3, ⟨A, cap, xs, e, q1, q2, q3, q4⟩, h5⟩ := h
 refine ⟨h1, h2, h3, ⟨A, cap, xs, e, q1, q2, ⟨q3.1, fun hn => ?_⟩, q4⟩, h5⟩
 obtain ⟨ad, e, hg, hl, hc⟩ := q3.2 hn
 exact ⟨ad, e, ⟨hg, hl⟩, hl, hc⟩
theorem ownF_len {A : Option Addr} {n n' c : Nat} {k : Nat} (h : ownF (.slice A n c) k) : ownF (.slice A n' c) k := by
 cases A with
 | none => unfold ownF Value.ownBlock at h; cases h
 | some a => exact h
theorem right_len2 {m : NM} (h : right m = true) : m.l.length ≤ 40 := (right_len h).1
theorem ins_len {x : NM} : ∀ l : List NM, (insN x l).length ≤ l.length + 1
 | [] => Nat.le_refl _
 | y :: l => by
  unfold insN
  split
  · simp
  · split
    · simp
    · simpa using ins_len l
theorem fold_len : ∀ (l acc : List NM), (l.foldl (fun acc x => insN (ns x) acc) acc).length ≤ l.length + acc.length
 | [], acc => by simp
 | x :: l, acc => by
  have h1 := fold_len l (insN (ns x) acc)
  have h2 := ins_len (x := ns x) acc
  simp only [List.foldl_cons, List.length_cons]
  omega
theorem joinN_len {L' L : List NM} (h : L'.map ns = joinN L) : L'.length ≤ L.length := by
 have h1 := congrArg List.length h
 have h2 := fold_len (L.filter right) []
 have h3 := List.length_filter_le right L
 rw [List.length_map] at h1
 unfold joinN at h1
 simp only [List.length_nil] at h2
 omega
theorem joined_right {L' L : List NM} (h : L'.map ns = joinN L) : ∀ m ∈ L', right m = true := fun m hm => by
 have := (join_good L (ns m) (by rw [← h]; exact List.mem_map_of_mem hm)).1
 rwa [right_ns] at this
end
section
variable {M O : List NM} {k : Nat} {m m' : NM}
theorem it_yes (hm : M[k]? = some m) (hO : O.map ns = ((M.take k).filter right).map ns) (hr : right m = true) (e : ns m' = ns m) : (O ++ [m']).map ns = ((M.take (k + 1)).filter right).map ns := by
 rw [take_succ_get hm, List.filter_append, List.map_append, List.map_append, hO]
 simp [hr, e]
theorem it_no (hm : M[k]? = some m) (hO : O.map ns = ((M.take k).filter right).map ns) (hr : right m = false) : O.map ns = ((M.take (k + 1)).filter right).map ns := by
 rw [take_succ_get hm, List.filter_append, List.map_append, hO]
 simp [hr]
theorem it_len (hO : O.map ns = ((M.take k).filter right).map ns) : O.length ≤ M.length := by
 have := congrArg List.length hO
 rw [List.length_map, List.length_map] at this
 have h1 := List.length_filter_le right (M.take k)
 rw [List.length_take] at h1
 omega
theorem it_right (hO : O.map ns = ((M.take k).filter right).map ns) : ∀ m ∈ O, right m = true := by
 intro m hm
 have : ns m ∈ ((M.take k).filter right).map ns := by rw [← hO]; exact List.mem_map_of_mem hm
 obtain ⟨y, hy, e⟩ := List.mem_map.1 this
 rw [← right_ns, ← e, right_ns]
 exact (List.mem_filter.1 hy).2
theorem it_join (hO : O.map ns = (M.filter right).map ns) : joinN O = joinN M := by
 rw [← join_map O, hO, join_map]
 refine join_congr fun x => ?_
 constructor
 · rintro ⟨y, hy, h⟩
   exact ⟨y, (List.mem_filter.1 hy).1, h⟩
 · rintro ⟨y, hy, hr, h⟩
   exact ⟨y, List.mem_filter.2 ⟨hy, hr⟩, hr, h⟩
end
theorem sorted_v {w : World} (hG : Gr w) {base : Nat} (h6 : 6 ≤ base) {A : Option Addr} {c : Nat} {Ls : List NM} (rO : w.ownsRow base 95 5 (.slice A Ls.length c) Ls.length (List.flatMap KN0.cells Ls)) (hok : OkNs (fun k => ¬ ownF (.slice A Ls.length c) k) w Ls) (hr : ∀ m ∈ Ls, right m = true) (hl : Ls.length ≤ 1000000) : Calls Tryz.prog 53 [.slice A Ls.length c, .func (.func 54) #[] #[]].toArray w (SrtTo A c base Ls w) := by
 refine calls_start Tryz.func53 rfl rfl ?_
 intro az Z
 rw [Tryz.ntmps53] at Z
 refine wp_seq_k fun _ k1 => wp_region_lit ?_
 refine LBox Z rfl rfl rfl ?_
 clear Z az; intro g2 w3 hg6 hl7 o4 B5 az Z
 refine L (r_as Z rfl) Z rfl ?_; clear Z az; intro az Z
 refine k1 _ _ (wp_seq_k fun _ k8 => wp_region_lit ?_)
 refine L (r_mv Z rfl) Z rfl ?_; clear Z az; intro az Z
 refine L (r_ld Tryz.isAgg97 Z rfl (CA.first (Blk.ca B5))) Z rfl ?_; clear Z az; intro az Z
 have G15 := Gr.only hG (Only.trans (Only.refl (ownF (.slice A Ls.length c)) w) o4 (fun k h => h.elim)) (fun k hk => Nat.le_trans h6 (ownF_ge rO k hk))
 have r16 := (ow_k rO o4)
 refine LC Z rfl rfl Tryz.call88 (sort_v G15 h6 r16 (OkNs.k hok o4) hr hl) rfl ?_
 rintro e w9 ⟨L11, rfl, pm12, pw13, r14, o10⟩; refine ⟨_, rfl, ?_⟩
 have hl17 : L11.length = Ls.length := pm12.length_eq
 clear Z az; intro az Z
 refine k8 _ _ (wp_seq_k fun _ k18 => wp_region_lit ?_)
 refine L (r_mv Z rfl) Z rfl ?_; clear Z az; intro az Z
 refine L (r_mfc Z rfl) Z rfl ?_; clear Z az; intro az Z
 have hRL : w9.ownsRow base 95 5 (.slice A L11.length c) L11.length (List.flatMap KN0.cells L11) := by rw [hl17]; exact r14
 have hFe : ownF (.slice A L11.length c) = ownF (.slice A Ls.length c) := by rw [hl17]
 have hoL : OkNs (fun k => ¬ ownF (.slice A L11.length c) k) w9 L11 := fun m hm => by rw [hFe]; exact (OkNs.only (F := ownF (.slice A Ls.length c)) hok (Only.trans (Only.trans (Only.refl (ownF (.slice A Ls.length c)) w) o4 (fun k h => h.elim)) o10 (fun k h => .inl h)) (fun _ hk h => hk h)) m (pm12.mem_iff.1 hm)
 have G22 := Gr.only hG (Only.trans (Only.trans (Only.refl (ownF (.slice A Ls.length c)) w) o4 (fun k h => h.elim)) o10 (fun k h => .inl h)) (fun k hk => Nat.le_trans h6 (ownF_ge rO k hk))
 have B23 := (Blk.only B5 o10 (ow_nb r16 B5 (by decide)))
 refine LC Z rfl (by rw [← hl17]; rfl) Tryz.call89 (cmpct_v G22 h6 B23 (fun h => absurd (ownF_lt rO _ (by rw [← hFe]; exact h)) (Nat.not_lt.2 hg6)) hRL hoL (fun m hm => hr m (pm12.mem_iff.1 hm)) (by omega)) rfl ?_
 rintro e w19 ⟨rfl, r21, o20⟩; refine ⟨_, rfl, ?_⟩
 rw [hFe] at o20
 clear Z az; intro az Z
 refine L (r_as Z rfl) Z rfl ?_; clear Z az; intro az Z
 refine k18 _ _ ?_
 refine wp_ret ?_
 show bodyPost _ _ _ .ret _ _
 refine ret_of (vs := [.slice A ((compactN L11).length) c]) Z Tryz.results53 ⟨rfl, trivial⟩ ?_
 have hjn : joinN L11 = joinN Ls := join_congr fun x => ⟨fun ⟨y, hy, h⟩ => ⟨y, pm12.mem_iff.1 hy, h⟩, fun ⟨y, hy, h⟩ => ⟨y, pm12.mem_iff.2 hy, h⟩⟩
 exact ⟨compactN L11, rfl, (compact_join (fun m hm => hr m (pm12.mem_iff.1 hm)) pw13).trans hjn, fun m hm => pm12.mem_iff.1 (comp_sub hm), r21, (Only.trans (Only.trans (Only.trans (Only.refl (ownF (.slice A Ls.length c)) w) o4 (fun k h => h.elim)) o10 (fun k h => .inl h)) o20 (fun k h => .inl h))⟩
theorem items_v_ {w : World} (hG : Gr w) {l l2 : List NM} {A1 A2 : Option Addr} {c1 c2 : Nat} (t1 : NtV w (.slice A1 l.length c1) l) (t2 : NtV w (.slice A2 l2.length c2) l2) (hl : l.length + l2.length ≤ 1000000) : Calls Tryz.prog 30 [.slice A1 l.length c1, .slice A2 l2.length c2].toArray w (ItemsTo (l ++ l2) w) := by
 have hMl : (l ++ l2).length = l.length + l2.length := List.length_append
 have hok2 : OkNs AllB w (l ++ l2) := fun m hm => (List.mem_append.1 hm).elim (t1.2 m) (t2.2 m)
 refine calls_start Tryz.func30 rfl rfl ?_
 intro az Z
 rw [Tryz.ntmps30] at Z
 refine wp_seq_k fun _ k1 => wp_region_lit ?_
 refine L (r_as Z rfl) Z rfl ?_; clear Z az; intro az Z
 refine k1 _ _ (wp_seq_k fun _ k2 => wp_region_lit ?_)
 refine L (r_as Z rfl) Z rfl ?_; clear Z az; intro az Z
 refine k2 _ _ (wp_seq_k fun _ k3 => ?_)
 refine wp_seq_k fun _ k4 => wp_region_lit ?_
 refine L (r_mv Z rfl) Z rfl ?_; clear Z az; intro az Z
 refine L (r_mv Z rfl) Z rfl ?_; clear Z az; intro az Z
 obtain ⟨A5, w6, hw, hA, r7, o8⟩ := Row.made (w := w) (KNR w) (e := 22) ([(⟨A1, l, c1⟩ : NR), (⟨A2, l2, c2⟩ : NR)] : List NR) (by simp only [List.length_cons, List.length_nil]; unfold maxLen; omega)
 refine L (r_bs (z := .slice none (0) 0) (size := 1) (vs := [(0, .slice A1 (l.length) c1), (1, .slice A2 (l2.length) c2)]) (cs := List.flatMap (KNR w).cells [(⟨A1, l, c1⟩ : NR), (⟨A2, l2, c2⟩ : NR)]) Tryz.underlying77 Tryz.sizeOf22 Tryz.zeroValue22 rfl (Fr.evalps Z rfl) (by kernel_rfl)) Z rfl ?_
 rw [← hw, ← hA]; clear Z az; intro az Z
 clear hw hA
 have ok9 : ∀ zq ∈ ([(⟨A1, l, c1⟩ : NR), (⟨A2, l2, c2⟩ : NR)] : List NR), (KNR w).ok zq := by intro zq hx; simp only [List.mem_cons, List.not_mem_nil, or_false] at hx; rcases hx with rfl | rfl <;> first | exact t1 | exact t2
 have h15 := SliceOf.pl (Row.own (KNR w) r7 ok9)
 have hC := Con_v_ (M := [(⟨A1, l, c1⟩ : NR), (⟨A2, l2, c2⟩ : NR)]) (nrs_up h15 o8) (by simp; omega)
 refine LC Z rfl rfl Tryz.call51 hC rfl ?_
 rintro e w10 ⟨A12, c13, rfl, r14, o11⟩
 have hM : ([⟨A1, l, c1⟩, ⟨A2, l2, c2⟩] : List NR).flatMap (·.l) = l ++ l2 := by simp
 rw [hM] at r14 ⊢; refine ⟨_, rfl, ?_⟩
 clear Z az; intro az Z
 refine L (r_lenL Tryz.underlying22 Z rfl) Z rfl ?_; clear Z az; intro az Z
 refine L (r_mv Z rfl) Z rfl ?_; clear Z az; intro az Z
 refine k4 _ _ ?_
 refine wp_block ?_
 refine wp_loop_m (fun mz az W => ∃ k : Nat, ∃ O : List NM, ∃ Ao : Option Addr, ∃ co : Nat, mz = (l ++ l2).length - k ∧ Fr 30 [(11, .slice A12 ((l ++ l2).length) c13), (12, .int .i64 ((((l ++ l2).length : Nat) : Int))), (13, .int .i64 ((k : Int))), (5, .slice Ao (O.length) co)] az ∧ (k ≤ (l ++ l2).length) ∧ (O.map ns = (((l ++ l2).take k).filter right).map ns) ∧ Only NoF w W ∧ W.ownsRow w.heap.size 95 5 (.slice Ao O.length co) O.length (List.flatMap KN0.cells O) ∧ OkNs (fun q => w.heap.size ≤ q ∧ ¬ ownF (.slice Ao O.length co) q) W O ∧ W.ownsRow w.heap.size 43 5 (.slice A12 ((l ++ l2).length) c13) (l ++ l2).length (List.flatMap KN0.cells (l ++ l2))) ?_ ?_
 ·
  have O16 : Only NoF w w10 := (Only.trans' o8 o11)
  exact ⟨_, 0, [], none, 0, rfl, Z.cut ⟨rfl, rfl, rfl, rfl, trivial⟩, Nat.zero_le _, rfl, O16, (World.ownsRow_nil _ _ _ _), OkNs.nil, (ow_low r14 (size_only o8))⟩
 clear Z az
 rintro mz az w17 ⟨k, O, Ao, co, hm19, Z, hk, hO, o18, rO, hN, rM⟩
 have hOl := it_len hO
 refine wp_seq_k fun _ k20 => wp_region_lit ?_
 refine L (r_ltI Z rfl rfl) Z rfl ?_; clear Z az; intro az Z
 refine k20 _ _ (wp_seq_k fun _ k21 => ?_)
 refine br Z rfl (fun hc22 => ?_) (fun hc22 => ?_)
 ·
  have p23 := of_decide_eq_true hc22
  refine wp_skip ?_
  refine k21 _ _ (wp_seq_k fun _ k24 => ?_)
  refine wp_block ?_
  refine wp_seq_k fun _ k25 => wp_region_lit ?_
  have h26 := Row.own KN0 rM (fun _ _ => trivial)
  have hk27 : k < ((l ++ l2)).length := by omega
  obtain ⟨m28, hm29, ok30, hA31⟩ := Row.el KN0 h26 hk27
  have E32 : ∀ W, Only NoF w17 W → CA W (eA A12 5 (k)) [.int .i64 (m28.h), .int .i64 (m28.n), .int .i64 (m28.d), .slice m28.A (m28.l.length) m28.c, strV (m28.s)] := Row.ce KN0 h26 hm29 rfl
  refine L (r_ia (k := k) (size := 5) Tryz.underlying22 Tryz.sizeOf43 Z rfl rfl rfl hk27 hA31) Z rfl ?_; clear Z az; intro az Z
  refine L (r_ldA Tryz.isAgg43 Tryz.sizeOf43 Z rfl (E32 _ (Only.refl NoF w17)) rfl) Z rfl ?_; clear Z az; intro az Z
  refine LAl (v := .agg #[.int .i64 (0), .int .i64 (0), .int .i64 (0), .slice none (0) 0, strV ([])]) Tryz.zeroValue43 Z rfl rfl ?_
  clear Z az; intro g33 w34 hg37 hl38 o35 B36 az Z
  refine LSt (cs' := [.int .i64 (m28.h), .int .i64 (m28.n), .int .i64 (m28.d), .slice m28.A (m28.l.length) m28.c, strV (m28.s)]) Tryz.sizeOf43 Z rfl rfl rfl rfl rfl ⟨rfl, rfl, rfl, rfl, rfl, trivial⟩ B36 rfl rfl fun w39 s40 B41 => ?_
  refine k25 _ _ (wp_seq_k fun _ k42 => wp_region_lit ?_)
  refine L (r_ldA Tryz.isAgg43 Tryz.sizeOf43 Z rfl (Blk.ca B41) rfl) Z rfl ?_; clear Z az; intro az Z
  have O43 : Only NoF w w39 := (o_sg (Only.trans' o18 o35) s40 (size_only o18) (oneF_ge hg37))
  have h44 := (SliceOf.kp (hok2 _ (List.mem_of_getElem? hm29)).2.2.2.1 O43 (fun _ _ h => h) (fun _ _ _ _ h => h))
  refine LCV (v := .bool (right m28)) Z rfl rfl Tryz.call43 (Right_v h44) rfl fun w45 o46 => ?_; clear Z az; intro az Z
  refine k42 _ _ ?_
  refine br Z rfl (fun hc47 => ?_) (fun hc47 => ?_)
  ·
   have q48 : right m28 = true := hc47
   refine wp_seq_k fun _ k49 => wp_region_lit ?_
   refine L (r_fa (m' := 3) Tryz.underlying43 rfl Tryz.sizeOf35 rfl Z rfl rfl) Z rfl ?_; clear Z az; intro az Z
   have B50 := (Blk.k B41 o46)
   refine L (r_ld Tryz.isAgg35 Z rfl ((Blk.ca B50) 3 _ rfl)) Z rfl ?_; clear Z az; intro az Z
   have O56 : Only NoF w w45 := (Only.trans' O43 o46)
   have h57 := (SliceOf.kp (hok2 _ (List.mem_of_getElem? hm29)).2.2.2.1 O56 (fun _ _ h => h) (fun _ _ _ _ h => h))
   refine LC Z rfl rfl Tryz.call52 (cloneRefs_v h57 (Nat.le_trans (right_len2 hc47) (by decide))) rfl ?_
   rintro e w51 ⟨A53, c54, rfl, r55, o52⟩; refine ⟨_, rfl, ?_⟩
   have hc58 := clone_okG (okN.k (hok2 _ (List.mem_of_getElem? hm29)) O56) r55
   clear Z az; intro az Z
   refine L (r_fa (m' := 3) Tryz.underlying43 rfl Tryz.sizeOf35 rfl Z rfl rfl) Z rfl ?_; clear Z az; intro az Z
   have B59 := (Blk.k B50 o52)
   refine LSt (cs' := [.int .i64 (m28.h), .int .i64 (m28.n), .int .i64 (m28.d), .slice A53 (m28.l.length) c54, strV (m28.s)]) Tryz.sizeOf35 Z rfl rfl rfl rfl rfl ⟨rfl, trivial⟩ B59 rfl rfl fun w60 s61 B62 => ?_
   refine k49 _ _ ?_
   refine wp_region_lit ?_
   refine L (r_mv Z rfl) Z rfl ?_; clear Z az; intro az Z
   refine L (r_ldA Tryz.isAgg43 Tryz.sizeOf43 Z rfl (Blk.ca B62) rfl) Z rfl ?_; clear Z az; intro az Z
   obtain ⟨A63, w64, hw, hA, r65, o66⟩ := Row.made (w := w60) KN0 (e := 95) ([(⟨m28.h, m28.n, m28.d, A53, m28.l, c54, m28.s⟩ : NM)] : List NM) (by simp only [List.length_cons, List.length_nil]; unfold maxLen; omega)
   refine L (r_bs (z := .agg #[.int .i64 (0), .int .i64 (0), .int .i64 (0), .slice none (0) 0, strV ([])]) (size := 5) (vs := [(0, .agg #[.int .i64 (m28.h), .int .i64 (m28.n), .int .i64 (m28.d), .slice A53 (m28.l.length) c54, strV (m28.s)])]) (cs := List.flatMap KN0.cells [(⟨m28.h, m28.n, m28.d, A53, m28.l, c54, m28.s⟩ : NM)]) Tryz.underlying60 Tryz.sizeOf95 Tryz.zeroValue95 rfl (Fr.evalps Z rfl) (by kernel_rfl)) Z rfl ?_
   rw [← hw, ← hA]; clear Z az; intro az Z
   clear hw hA
   have ok67 : ∀ zq ∈ ([(⟨m28.h, m28.n, m28.d, A53, m28.l, c54, m28.s⟩ : NM)] : List NM), KN0.ok zq := by intro zq hx; simp only [List.mem_cons, List.not_mem_nil, or_false] at hx; rcases hx with rfl <;> first | exact trivial
   have r68 := (ow_k (ow_only (ow_k (ow_k (ow_only (ow_k rO o35) s40 (fun k hk => lt_F (oneF_ge hg37) (Nat.le_refl _) k (ownF_lt rO k hk))) o46) o52) s61 (fun k hk => lt_F (oneF_ge hg37) (Nat.le_refl _) k (ownF_lt rO k hk))) o66)
   have h69 := SliceOf.pl (Row.own KN0 r65 ok67)
   have hb77 : (List.length (O) + List.length ([(⟨m28.h, m28.n, m28.d, A53, m28.l, c54, m28.s⟩ : NM)])) * 64 ≤ 140737488355328 := by (simp only [List.length_append, List.length_cons, List.length_nil]; omega)
   have O78 : Only NoF w w64 := (Only.trans' (o_sg (Only.trans' O56 o52) s61 (size_only o18) (oneF_ge hg37)) o66)
   obtain ⟨A70, c71, w72, hr73, r74, o75, al76⟩ := Row.app (P := Tryz.prog) (l := O) (l2 := [(⟨m28.h, m28.n, m28.d, A53, m28.l, c54, m28.s⟩ : NM)]) KN0 elemItem r68 h69 hb77 (by unfold maxLen; omega) (size_only O78)
   refine L (r_app hr73 Z rfl rfl) Z rfl ?_; clear Z az; intro az Z
   have ok79 : ∀ zq ∈ (O ++ [(⟨m28.h, m28.n, m28.d, A53, m28.l, c54, m28.s⟩ : NM)]), KN0.ok zq := (fun x hx => (List.mem_append.1 hx).elim ((fun _ _ => trivial) x) ((Row.oks KN0 h69) x))
   have h80 := Row.own KN0 r74 ok79
   refine L (r_as Z rfl) Z rfl ?_; clear Z az; intro az Z
   refine k24 _ _ ?_
   refine wp_region_lit ?_
   have i81 : I64 (((k : Int) + 1)) := by unfold I64; omega
   refine L (r_addI (r := ((k : Int) + 1)) Z rfl rfl rfl i81) Z rfl ?_; clear Z az; intro az Z
   refine L (r_mv Z rfl) Z rfl ?_; clear Z az; intro az Z
   have O84 := (Only.trans (Only.trans (Only.refl (fun _ => True) w34) s40 (fun _ _ => .inl trivial)) o46 (fun _ _ => .inl trivial))
   have r85 := (ow_k (ow_only (ow_k rO o35) s40 (fun k hk => lt_F (oneF_ge hg37) (Nat.le_refl _) k (ownF_lt rO k hk))) o46)
   have hn82 : okN (fun q => w.heap.size ≤ q ∧ ¬ ownF (.slice Ao (O.length) co) q) w64 (⟨m28.h, m28.n, m28.d, A53, m28.l, c54, m28.s⟩ : NM) := okN.sup (okN.only (okN.lt2 hc58) (Only.trans (Only.trans (Only.refl (fun k => k < w45.heap.size) w51) s61 (fun k h => .inl (by rw [show k = g33 from h]; exact Nat.lt_of_lt_of_le hl38 (size_only O84)))) o66 (fun _ h => h.elim)) (fun k hk => Nat.not_lt.2 hk.1)) (fun k hk => ⟨Nat.le_trans (size_only O56) hk.1, fun h => absurd (ownF_lt r85 k h) (Nat.not_lt.2 hk.1)⟩)
   have O86 : Only NoF w17 w64 := (Only.trans' (o_sg (Only.trans' (Only.trans' (o_sg o35 s40 (Nat.le_refl _) (oneF_ge hg37)) o46) o52) s61 (Nat.le_refl _) (oneF_ge hg37)) o66)
   have hn83 := OkNs.sup (OkNs.grow (OkNs.app (OkNs.only hN O86 (fun _ _ h => h)) hn82) o75 (fun k hk => hk.2) (Nat.le_refl _) al76) (S' := (fun q => w.heap.size ≤ q ∧ ¬ ownF (.slice A70 (((O ++ [(⟨m28.h, m28.n, m28.d, A53, m28.l, c54, m28.s⟩ : NM)])).length) c71) q)) (fun k hk => ⟨hk.1.1, hk.2⟩)
   have O87 : Only NoF w w72 := (o_sg O78 o75 (Nat.le_refl _) (ownF_ge rO))
   have r88 := (ow_only (ow_k (ow_only (ow_k (ow_k (ow_only (ow_k rM o35) s40 (fun k hk => lt_F (oneF_ge hg37) (Nat.le_refl _) k (ownF_lt rM k hk))) o46) o52) s61 (fun k hk => lt_F (oneF_ge hg37) (Nat.le_refl _) k (ownF_lt rM k hk))) o66) o75 (ow_ne (ow_k (ow_only (ow_k (ow_k (ow_only (ow_k rM o35) s40 (fun k hk => lt_F (oneF_ge hg37) (Nat.le_refl _) k (ownF_lt rM k hk))) o46) o52) s61 (fun k hk => lt_F (oneF_ge hg37) (Nat.le_refl _) k (ownF_lt rM k hk))) o66) r68 (by decide)))
   exact ⟨_, (by omega), k + 1, _, A70, c71, rfl, Z.cut ⟨rfl, rfl, rfl, rfl, trivial⟩, (by omega), (it_yes hm29 hO hc47 rfl), O87, r74, hn83, r88⟩
  ·
   have q89 : right m28 = false := hc47
   refine wp_skip ?_
   refine k24 _ _ ?_
   refine wp_region_lit ?_
   have i90 : I64 (((k : Int) + 1)) := by unfold I64; omega
   refine L (r_addI (r := ((k : Int) + 1)) Z rfl rfl rfl i90) Z rfl ?_; clear Z az; intro az Z
   refine L (r_mv Z rfl) Z rfl ?_; clear Z az; intro az Z
   have O91 : Only NoF w w45 := (Only.trans' O43 o46)
   have r92 := (ow_k (ow_only (ow_k rO o35) s40 (fun k hk => lt_F (oneF_ge hg37) (Nat.le_refl _) k (ownF_lt rO k hk))) o46)
   have O93 : Only NoF w17 w45 := (Only.trans' (o_sg o35 s40 (Nat.le_refl _) (oneF_ge hg37)) o46)
   have r94 := (ow_k (ow_only (ow_k rM o35) s40 (fun k hk => lt_F (oneF_ge hg37) (Nat.le_refl _) k (ownF_lt rM k hk))) o46)
   exact ⟨_, (by omega), k + 1, O, Ao, co, rfl, Z.cut ⟨rfl, rfl, rfl, rfl, trivial⟩, (by omega), (it_no hm29 hO hc47), O91, r92, (OkNs.k hN O93), r94⟩
 ·
  have p95 := of_decide_eq_false hc22
  refine wp_exit ?_
  refine th_exit ?_
  refine th_exit ?_
  refine ib_hit ?_
  refine k3 _ _ (wp_seq_k fun _ k96 => wp_region_lit ?_)
  refine L (r_mv Z rfl) Z rfl ?_; clear Z az; intro az Z
  rw [List.take_of_length_le (by omega)] at hO
  have hN2 := OkNs.sup (OkNs.k hN (Only.refl NoF w17)) (S' := fun q => ¬ ownF (.slice Ao O.length co) q) (fun q hq => hq.2)
  have G103 := Gr.k hG o18
  refine LC Z rfl rfl Tryz.call53 (sorted_v G103 (Nat.le_trans hG.1 (Nat.le_refl _)) rO hN2 (it_right (k := (l ++ l2).length) (by rw [List.take_length]; exact hO)) (by omega)) rfl ?_
  rintro e w97 ⟨L99, rfl, hL100, hs101, r102, o98⟩; refine ⟨_, rfl, ?_⟩
  clear Z az; intro az Z
  refine L (r_as Z rfl) Z rfl ?_; clear Z az; intro az Z
  refine k96 _ _ ?_
  refine wp_ret ?_
  show bodyPost _ _ _ .ret _ _
  refine ret_of (vs := [.slice Ao (L99.length) co]) Z Tryz.results30 ⟨rfl, trivial⟩ ?_
  have O104 : Only NoF w w97 := (o_sg o18 o98 (Nat.le_refl _) (ownF_ge rO))
  exact ⟨_, _, L99, rfl, hL100.trans (it_join hO), r102, fun m hm => okN.sup (okN.only (OkNs.k hN (Only.refl NoF w17) m (hs101 m hm)) o98 (fun _ hk => hk.2)) (fun k hk => ⟨hk.1, fun h => hk.2 (ownF_len h)⟩), O104⟩
theorem notes_v_ {w : World} {l : List NM} {A1 : Option Addr} {c1 : Nat} (f1 : SliceOf AllB 5 KN0.R w (.slice A1 l.length c1) l) (hl : l.length ≤ 1000000) : Calls Tryz.prog 34 [.slice A1 l.length c1].toArray w (RowTo l w) := by
 refine calls_start Tryz.func34 rfl rfl ?_
 intro az Z
 rw [Tryz.ntmps34] at Z
 refine wp_seq_k fun _ k1 => wp_region_lit ?_
 refine L (r_as Z rfl) Z rfl ?_; clear Z az; intro az Z
 refine k1 _ _ (wp_seq_k fun _ k2 => wp_region_lit ?_)
 refine L (r_as Z rfl) Z rfl ?_; clear Z az; intro az Z
 refine k2 _ _ (wp_seq_k fun _ k3 => ?_)
 refine wp_seq_k fun _ k4 => wp_region_lit ?_
 refine L (r_mv Z rfl) Z rfl ?_; clear Z az; intro az Z
 refine L (r_lenL Tryz.underlying60 Z rfl) Z rfl ?_; clear Z az; intro az Z
 refine L (r_mv Z rfl) Z rfl ?_; clear Z az; intro az Z
 refine k4 _ _ ?_
 refine wp_block ?_
 refine wp_loop_m (fun mz az W => ∃ k : Nat, ∃ O : List NM, ∃ Ao : Option Addr, ∃ co : Nat, mz = l.length - k ∧ Fr 18 [(6, .slice A1 (l.length) c1), (7, .int .i64 (((l.length : Nat) : Int))), (8, .int .i64 ((k : Int))), (3, .slice Ao (O.length) co)] az ∧ (k ≤ l.length) ∧ (O = l.take k) ∧ Only NoF w W ∧ W.ownsRow w.heap.size 43 5 (.slice Ao O.length co) O.length (List.flatMap KN0.cells O)) ?_ ?_
 ·
  exact ⟨_, 0, [], none, 0, rfl, Z.cut ⟨rfl, rfl, rfl, rfl, trivial⟩, Nat.zero_le _, rfl, (Only.refl NoF w), (World.ownsRow_nil _ _ _ _)⟩
 clear Z az
 rintro mz az w5 ⟨k, O, Ao, co, hm7, Z, hk, hO, o6, rO⟩
 have hOl : O.length ≤ l.length := by rw [hO, List.length_take]; omega
 refine wp_seq_k fun _ k8 => wp_region_lit ?_
 refine L (r_ltI Z rfl rfl) Z rfl ?_; clear Z az; intro az Z
 refine k8 _ _ (wp_seq_k fun _ k9 => ?_)
 refine br Z rfl (fun hc10 => ?_) (fun hc10 => ?_)
 ·
  have p11 := of_decide_eq_true hc10
  refine wp_skip ?_
  refine k9 _ _ (wp_seq_k fun _ k12 => ?_)
  refine wp_block ?_
  refine wp_seq_k fun _ k13 => wp_region_lit ?_
  have hk14 : k < (l).length := by omega
  have h20 := (SliceOf.kp f1 o6 (fun _ _ h => h) (fun _ _ _ _ h => h))
  obtain ⟨m15, hm16, ok17, hA18⟩ := Row.el KN0 h20 hk14
  have E19 : ∀ W, Only NoF w5 W → CA W (eA A1 5 (k)) [.int .i64 (m15.h), .int .i64 (m15.n), .int .i64 (m15.d), .slice m15.A (m15.l.length) m15.c, strV (m15.s)] := Row.ce KN0 h20 hm16 rfl
  refine L (r_ia (k := k) (size := 5) Tryz.underlying60 Tryz.sizeOf95 Z rfl rfl rfl hk14 hA18) Z rfl ?_; clear Z az; intro az Z
  refine L (r_ldA Tryz.isAgg95 Tryz.sizeOf95 Z rfl (E19 _ (Only.refl NoF w5)) rfl) Z rfl ?_; clear Z az; intro az Z
  refine LAl (v := .agg #[.int .i64 (0), .int .i64 (0), .int .i64 (0), .slice none (0) 0, strV ([])]) Tryz.zeroValue95 Z rfl rfl ?_
  clear Z az; intro g21 w22 hg25 hl26 o23 B24 az Z
  refine LSt (cs' := [.int .i64 (m15.h), .int .i64 (m15.n), .int .i64 (m15.d), .slice m15.A (m15.l.length) m15.c, strV (m15.s)]) Tryz.sizeOf95 Z rfl rfl rfl rfl rfl ⟨rfl, rfl, rfl, rfl, rfl, trivial⟩ B24 rfl rfl fun w27 s28 B29 => ?_
  refine k13 _ _ ?_
  refine wp_region_lit ?_
  refine L (r_mv Z rfl) Z rfl ?_; clear Z az; intro az Z
  refine L (r_ldA Tryz.isAgg95 Tryz.sizeOf95 Z rfl (Blk.ca B29) rfl) Z rfl ?_; clear Z az; intro az Z
  obtain ⟨A30, w31, hw, hA, r32, o33⟩ := Row.made (w := w27) KN0 (e := 43) ([m15] : List NM) (by simp only [List.length_cons, List.length_nil]; unfold maxLen; omega)
  refine L (r_bs (z := .agg #[.int .i64 (0), .int .i64 (0), .int .i64 (0), .slice none (0) 0, strV ([])]) (size := 5) (vs := [(0, .agg #[.int .i64 (m15.h), .int .i64 (m15.n), .int .i64 (m15.d), .slice m15.A (m15.l.length) m15.c, strV (m15.s)])]) (cs := List.flatMap KN0.cells [m15]) Tryz.underlying22 Tryz.sizeOf43 Tryz.zeroValue43 rfl (Fr.evalps Z rfl) (by kernel_rfl)) Z rfl ?_
  rw [← hw, ← hA]; clear Z az; intro az Z
  clear hw hA
  have ok34 : ∀ zq ∈ ([m15] : List NM), KN0.ok zq := by intro zq hx; simp only [List.mem_cons, List.not_mem_nil, or_false] at hx; rcases hx with rfl <;> first | exact trivial
  have r35 := (ow_k (ow_only (ow_k rO o23) s28 (fun k hk => lt_F (oneF_ge hg25) (Nat.le_refl _) k (ownF_lt rO k hk))) o33)
  have h36 := SliceOf.pl (Row.own KN0 r32 ok34)
  have hb44 : (List.length (O) + List.length ([m15])) * 64 ≤ 140737488355328 := by (simp only [List.length_append, List.length_cons, List.length_nil]; omega)
  have O45 : Only NoF w w31 := (Only.trans' (o_sg (Only.trans' o6 o23) s28 (size_only o6) (oneF_ge hg25)) o33)
  obtain ⟨A37, c38, w39, hr40, r41, o42, al43⟩ := Row.app (P := Tryz.prog) (l := O) (l2 := [m15]) KN0 elemNote r35 h36 hb44 (by unfold maxLen; omega) (size_only O45)
  refine L (r_app hr40 Z rfl rfl) Z rfl ?_; clear Z az; intro az Z
  have ok46 : ∀ zq ∈ (O ++ [m15]), KN0.ok zq := (fun x hx => (List.mem_append.1 hx).elim ((fun _ _ => trivial) x) ((Row.oks KN0 h36) x))
  have h47 := Row.own KN0 r41 ok46
  refine L (r_as Z rfl) Z rfl ?_; clear Z az; intro az Z
  refine k12 _ _ ?_
  refine wp_region_lit ?_
  have i48 : I64 (((k : Int) + 1)) := by unfold I64; omega
  refine L (r_addI (r := ((k : Int) + 1)) Z rfl rfl rfl i48) Z rfl ?_; clear Z az; intro az Z
  refine L (r_mv Z rfl) Z rfl ?_; clear Z az; intro az Z
  have O49 : Only NoF w w39 := (o_sg O45 o42 (Nat.le_refl _) (ownF_ge rO))
  exact ⟨_, (by omega), k + 1, _, A37, c38, rfl, Z.cut ⟨rfl, rfl, rfl, rfl, trivial⟩, (by omega), (by rw [hO, take_succ_get hm16]), O49, r41⟩
 ·
  have p50 := of_decide_eq_false hc10
  refine wp_exit ?_
  refine th_exit ?_
  refine th_exit ?_
  refine ib_hit ?_
  refine k3 _ _ (wp_seq_k fun _ k51 => wp_region_lit ?_)
  refine L (r_mv Z rfl) Z rfl ?_; clear Z az; intro az Z
  refine L (r_as Z rfl) Z rfl ?_; clear Z az; intro az Z
  refine k51 _ _ ?_
  refine wp_ret ?_
  show bodyPost _ _ _ .ret _ _
  refine ret_of (vs := [.slice Ao (O.length) co]) Z Tryz.results34 ⟨rfl, trivial⟩ ?_
  rw [List.take_of_length_le (by omega)] at hO; subst hO; exact ⟨_, _, rfl, rO, o6⟩
theorem Join_v_ {w : World} (hG : Gr w) {l l2 : List NM} {A1 A2 : Option Addr} {c1 c2 : Nat} (t1 : NtV w (.slice A1 l.length c1) l) (t2 : NtV w (.slice A2 l2.length c2) l2) (hl : l.length + l2.length ≤ 1000000) : Calls Tryz.prog 10 [.slice A1 l.length c1, .slice A2 l2.length c2].toArray w (NOut (joinN (l ++ l2)) w) := by
 refine calls_start Tryz.func10 rfl rfl ?_
 intro az Z
 rw [Tryz.ntmps10] at Z
 refine wp_seq_k fun _ k1 => wp_region_lit ?_
 refine L (r_as Z rfl) Z rfl ?_; clear Z az; intro az Z
 refine k1 _ _ (wp_seq_k fun _ k2 => wp_region_lit ?_)
 refine L (r_mv Z rfl) Z rfl ?_; clear Z az; intro az Z
 refine L (r_mv Z rfl) Z rfl ?_; clear Z az; intro az Z
 have G11 := Gr.k hG (Only.refl NoF w)
 refine LC Z rfl rfl Tryz.call30 (items_v_ G11 t1 t2 hl) rfl ?_
 rintro e w3 ⟨A5, c6, L7, rfl, hL8, r9, hN10, o4⟩; refine ⟨_, rfl, ?_⟩
 clear Z az; intro az Z
 have h17 := SliceOf.pl (Row.own KN0 r9 (fun _ _ => trivial))
 have hll : L7.length ≤ 1000000 := Nat.le_trans (joinN_len hL8) (by rw [List.length_append]; exact hl)
 refine LC Z rfl rfl Tryz.call34 (notes_v_ h17 hll) rfl ?_
 rintro e w12 ⟨A14, c15, rfl, r16, o13⟩; refine ⟨_, rfl, ?_⟩
 clear Z az; intro az Z
 refine L (r_as Z rfl) Z rfl ?_; clear Z az; intro az Z
 refine k2 _ _ ?_
 refine wp_ret ?_
 show bodyPost _ _ _ .ret _ _
 refine ret_of (vs := [.slice A14 (L7.length) c15]) Z Tryz.results10 ⟨rfl, trivial⟩ ?_
 have O18 : Only NoF w w12 := (Only.trans' o4 o13)
 exact ⟨_, _, L7, rfl, hL8, SliceOf.sup (Row.own KN0 r16 (fun _ _ => trivial)) (fun k hk => Nat.le_trans (size_only o4) hk), OkNs.sup (OkNs.k hN10 o13) (fun k hk => Nat.le_trans (Nat.le_refl _) hk.1), O18⟩
end
section
open Go.RowKit
/-! ### reads under a guard; parts of rows -/
section
variable {α : Type} {w : World} {S : Nat → Prop} {A : Option Addr} {n c k : Nat} {l : List α}
theorem Row.elg (K : Row α) (h : SliceOf S K.size K.R w (.slice A n c) l) (k : Nat) (d : α) : ∃ x, k < l.length → l[k]? = some x ∧ K.ok x ∧ A.isSome = true := by
 by_cases h0 : k < l.length
 · obtain ⟨x, h1, h2, h3⟩ := Row.el K h h0
   exact ⟨x, fun _ => ⟨h1, h2, h3⟩⟩
 · exact ⟨d, fun h => absurd h h0⟩
theorem SliceOf.top {R : World → List Value → α → Prop} {size : Nat} (h : SliceOf S size R w (.slice A l.length c) l) {m : Nat} (hm : m ≤ l.length) : SliceOf S size R w (.slice (slA A c 0 size) (l.take m).length c) (l.take m) := by
 have h1 := SliceOf.sub (lo := 0) (m := m) h rfl (by omega)
 rw [List.drop_zero, Nat.sub_zero] at h1
 rwa [List.length_take, Nat.min_eq_left hm]
theorem SliceOf.tail {R : World → List Value → α → Prop} {size : Nat} (h : SliceOf S size R w (.slice A l.length c) l) {m : Nat} (hm : m ≤ l.length) : SliceOf S size R w (.slice (slA A c m size) (l.drop m).length (c - m)) (l.drop m) := by
 have h1 := SliceOf.sub (lo := m) (m := (l.drop m).length) h rfl (by rw [List.length_drop]; omega)
 rwa [List.take_length] at h1
end
section
variable {w : World} {A : Option Addr} {c m : Nat} {l : List NM}
theorem NtV.notes {v : Value} (h : NtV w v l) : NotesV w w v l := SliceOf.only h.1 (Only.refl NoF w) (fun _ _ h => h) fun cs x hx hR => ⟨hR.1, (h.2 x hx).note⟩
theorem NtV.top (h : NtV w (.slice A l.length c) l) (hm : m ≤ l.length) : NtV w (.slice (slA A c 0 5) (l.take m).length c) (l.take m) :=
 ⟨SliceOf.top h.1 hm, fun x hx => h.2 x (List.mem_of_mem_take hx)⟩
end
/-! ### past -/
def okAt (l : List NM) (n : Nat) : Bool := match l[n]? with
 | none => false
 | some m => decide (m.n = n) && match l[n + 1]? with | none => true | some m2 => decide ((n : Int) < m2.n)
def cntF (l : List NM) : Nat → Nat → Nat
 | 0, n => n
 | f + 1, n => if okAt l n then cntF l f (n + 1) else n
def cntN (l : List NM) : Nat := cntF l l.length 0
def dwnN (l : List NM) : Nat → Nat
 | 0 => 0
 | n + 1 => if check (l.take (n + 1)) = 0 then n + 1 else dwnN l n
def adjN : List NM → Bool
 | a :: b :: r => decide (b.n = a.n) || adjN (b :: r)
 | _ => false
def pastN (l : List NM) : List NM := l.take (dwnN l (cntN l))
section
variable {l : List NM} {n : Nat} {m m2 : NM}
theorem ok_lt (h : okAt l n = true) : n < l.length := by
 unfold okAt at h
 split at h
 · cases h
 · rename_i e; exact (List.getElem?_eq_some_iff.1 e).1
theorem cnt_go : ∀ (f a : Nat), (∀ q, a ≤ q → q < n → okAt l q = true) → okAt l n = false → a ≤ n → n - a ≤ f → cntF l f a = n
 | 0, a, _, _, h1, h2 => by show a = n; omega
 | f + 1, a, h, hn, h1, h2 => by
  unfold cntF
  by_cases e : a = n
  · subst e; rw [if_neg (by rw [hn]; decide)]
  · rw [if_pos (h a (Nat.le_refl _) (by omega))]
    exact cnt_go f (a + 1) (fun q h3 h4 => h q (by omega) h4) hn (by omega) (by omega)
theorem cnt_eq (h : ∀ q, q < n → okAt l q = true) (hn : okAt l n = false) (hl : n ≤ l.length) : cntN l = n := cnt_go _ 0 (fun q _ hq => h q hq) hn (Nat.zero_le _) (by omega)
theorem cnt_stop : ∀ (f a : Nat), l.length ≤ a + f → a ≤ cntF l f a ∧ (∀ q, a ≤ q → q < cntF l f a → okAt l q = true) ∧ okAt l (cntF l f a) = false
 | 0, a, h => by
  refine ⟨Nat.le_refl _, fun q h1 h2 => absurd h2 (by show ¬ q < a; omega), ?_⟩
  show okAt l a = false
  cases e : okAt l a
  · rfl
  · have := ok_lt e; omega
 | f + 1, a, h => by
  unfold cntF
  split
  · rename_i e
    obtain ⟨h1, h2, h3⟩ := cnt_stop f (a + 1) (by omega)
    refine ⟨by omega, fun q h4 h5 => ?_, h3⟩
    by_cases e2 : q = a
    · subst e2; exact e
    · exact h2 q (by omega) h5
  · rename_i e
    exact ⟨Nat.le_refl _, fun q h1 h2 => absurd h2 (by omega), by simpa using e⟩
theorem cnt_spec (l : List NM) : (∀ q, q < cntN l → okAt l q = true) ∧ okAt l (cntN l) = false :=
 ⟨fun q h => (cnt_stop l.length 0 (by omega)).2.1 q (Nat.zero_le _) h, (cnt_stop l.length 0 (by omega)).2.2⟩
theorem cnt_le (l : List NM) : cntN l ≤ l.length := by
 rcases Nat.eq_zero_or_pos (cntN l) with h | h
 · omega
 · have := ok_lt ((cnt_spec l).1 (cntN l - 1) (by omega)); omega
theorem dwn_le (l : List NM) : ∀ n, dwnN l n ≤ n
 | 0 => Nat.le_refl _
 | n + 1 => by
  unfold dwnN
  split
  · exact Nat.le_refl _
  · exact Nat.le_succ_of_le (dwn_le l n)
theorem past_le (l : List NM) : dwnN l (cntN l) ≤ l.length := Nat.le_trans (dwn_le _ _) (cnt_le l)
/-- one look of the first loop, as the program writes it -/
theorem ok_yes (hm : n < l.length → l[n]? = some m) (h2 : n + 1 < l.length → l[n + 1]? = some m2) (h : (decide ((n : Int) < ((l.length : Nat) : Int)) && decide (m.n = (n : Int)) && (decide ((n : Int) + 1 = ((l.length : Nat) : Int)) || decide ((n : Int) < m2.n))) = true) : okAt l n = true := by
 rw [Bool.and_eq_true, Bool.and_eq_true] at h
 obtain ⟨⟨h0, h1⟩, h3⟩ := h
 have hl : n < l.length := by have := of_decide_eq_true h0; omega
 unfold okAt
 rw [hm hl]
 show (decide (m.n = (n : Int)) && _) = true
 rw [h1, Bool.true_and]
 by_cases e : n + 1 < l.length
 · rw [h2 e]
   show decide _ = true
   rw [decide_eq_false (by omega), Bool.false_or] at h3
   exact h3
 · rw [List.getElem?_eq_none (by omega)]
theorem ok_no (hm : n < l.length → l[n]? = some m) (h2 : n + 1 < l.length → l[n + 1]? = some m2) (h : (decide ((n : Int) < ((l.length : Nat) : Int)) && decide (m.n = (n : Int)) && (decide ((n : Int) + 1 = ((l.length : Nat) : Int)) || decide ((n : Int) < m2.n))) = false) : okAt l n = false := by
 cases e : okAt l n
 · rfl
 · exfalso
   have h1 := ok_lt e
   unfold okAt at e
   rw [hm h1] at e
   change (decide (m.n = (n : Int)) && _) = true at e
   rw [Bool.and_eq_true] at e
   rw [e.1, decide_eq_true (by omega : (n : Int) < _), Bool.true_and, Bool.true_and, Bool.or_eq_false_iff] at h
   have h4 : n + 1 < l.length := by have := of_decide_eq_false h.1; omega
   rw [h2 h4] at e
   exact absurd (e.2.symm.trans h.2) (by decide)
theorem dwn_stop {k : Nat} {z : Int} (hz : z = (k : Int)) (h : (decide (0 < z) && !decide (check (l.take k) = 0)) = false) : dwnN l k = k := by
 cases k with
 | zero => rfl
 | succ k =>
  rw [decide_eq_true (by omega), Bool.true_and, Bool.not_eq_false', decide_eq_true_eq] at h
  unfold dwnN
  rw [if_pos h]
theorem dwn_next {k : Nat} {z : Int} (hz : z = (k : Int)) (h : (decide (0 < z) && !decide (check (l.take k) = 0)) = true) : 0 < k ∧ dwnN l (k - 1) = dwnN l k := by
 rw [Bool.and_eq_true] at h
 have h0 := of_decide_eq_true h.1
 obtain ⟨j, rfl⟩ : ∃ j, k = j + 1 := ⟨k - 1, by omega⟩
 refine ⟨by omega, ?_⟩
 rw [Nat.add_sub_cancel]
 conv => rhs; unfold dwnN
 rw [if_neg]
 have := h.2
 rw [Bool.not_eq_true', decide_eq_false_iff_not] at this
 exact this
/-- two neighbours with one number, up to place k -/
theorem adj_snoc : ∀ (l : List NM) (a b : NM), adjN (l ++ [a, b]) = (adjN (l ++ [a]) || decide (b.n = a.n))
 | [], a, b => by simp [adjN]
 | [x], a, b => by simp [adjN]
 | x :: y :: l, a, b => by
  have := adj_snoc (y :: l) a b
  simp only [List.cons_append] at this ⊢
  unfold adjN
  rw [this, Bool.or_assoc]
theorem adj_step {k : Nat} {p m : NM} (h0 : 0 < k) (hp : l[k - 1]? = some p) (hm : l[k]? = some m) : adjN (l.take (k + 1)) = (adjN (l.take k) || decide (m.n = p.n)) := by
 obtain ⟨j, rfl⟩ : ∃ j, k = j + 1 := ⟨k - 1, by omega⟩
 rw [Nat.add_sub_cancel] at hp
 rw [take_succ_get hm, take_succ_get hp, List.append_assoc]
 exact adj_snoc _ p m
end
end
section
open Go.RowKit
theorem adj_one (l : List NM) : adjN (l.take 1) = false := by
 cases l with
 | nil => rfl
 | cons a r => rfl
theorem past_v_ {w : World} {l : List NM} {A : Option Addr} {c : Nat} (t : NtV w (.slice A l.length c) l) (hl : l.length ≤ 1000000) : Calls Tryz.prog 58 [.slice A l.length c].toArray w (Fix (.tuple #[.slice (slA A c 0 5) (pastN l).length c, .bool (adjN l)]) w) := by
 refine calls_start Tryz.func58 rfl rfl ?_
 intro az Z
 rw [Tryz.ntmps58] at Z
 refine wp_seq_k fun _ k1 => wp_region_lit ?_
 refine L (r_as Z rfl) Z rfl ?_; clear Z az; intro az Z
 refine L (r_as Z rfl) Z rfl ?_; clear Z az; intro az Z
 refine k1 _ _ (wp_seq_k fun _ k2 => wp_region_lit ?_)
 refine L (r_as Z rfl) Z rfl ?_; clear Z az; intro az Z
 refine k2 _ _ (wp_seq_k fun _ k3 => ?_)
 refine wp_block ?_
 refine wp_loop_m (fun mz az W => ∃ n : Nat, mz = l.length - n ∧ Fr 75 [(0, .slice A (l.length) c), (4, .int .i64 ((n : Int)))] az ∧ (n ≤ l.length) ∧ (∀ q, q < n → okAt l q = true) ∧ Only NoF w W) ?_ ?_
 ·
  exact ⟨_, 0, rfl, Z.cut ⟨rfl, rfl, trivial⟩, (Nat.zero_le _), (fun q h => absurd h (Nat.not_lt_zero _)), (Only.refl NoF w)⟩
 clear Z az
 rintro mz az w4 ⟨n, hm6, Z, hn, hk, o5⟩
 refine wp_seq_k fun _ k7 => ?_
 refine wp_seq_k fun _ k8 => wp_region_lit ?_
 refine L (r_mv Z rfl) Z rfl ?_; clear Z az; intro az Z
 refine L (r_mv Z rfl) Z rfl ?_; clear Z az; intro az Z
 refine L (r_lenL Tryz.underlying22 Z rfl) Z rfl ?_; clear Z az; intro az Z
 refine L (r_ltI Z rfl rfl) Z rfl ?_; clear Z az; intro az Z
 refine L (r_mv Z rfl) Z rfl ?_; clear Z az; intro az Z
 refine LG Z rfl rfl gd_t (fun hb => r_mv Z rfl) rfl ?_; clear Z az; intro az Z
 refine LG Z rfl rfl gd_t (fun hb => r_mv Z rfl) rfl ?_; clear Z az; intro az Z
 have h9 := (SliceOf.kp t.1 o5 (fun _ _ h => h) (fun _ _ _ _ h => h))
 obtain ⟨m10, hx11⟩ := Row.elg KN0 h9 (n) (⟨0, 0, 0, none, [], 0, []⟩ : NM)
 have E12 : ∀ (hp : n < (l).length) W, Only NoF w4 W → CA W (eA A 5 (n)) [.int .i64 (m10.h), .int .i64 (m10.n), .int .i64 (m10.d), .slice m10.A (m10.l.length) m10.c, strV (m10.s)] := fun hp => Row.ce KN0 h9 (hx11 hp).1 rfl
 refine LG Z rfl rfl gd_t (fun hb => r_ia (k := n) (size := 5) Tryz.underlying22 Tryz.sizeOf43 Z (evg hb rfl) (evg hb rfl) rfl (by first | omega | (have h0 := hb; simp only [Bool.and_eq_true, Bool.or_eq_true, Bool.not_eq_true', decide_eq_true_eq, decide_eq_false_iff_not] at h0; omega)) (hx11 (by first | omega | (have h0 := hb; simp only [Bool.and_eq_true, Bool.or_eq_true, Bool.not_eq_true', decide_eq_true_eq, decide_eq_false_iff_not] at h0; omega))).2.2) rfl ?_; clear Z az; intro az Z
 refine LG Z rfl rfl gd_t (fun hb => r_fa (m' := 1) Tryz.underlying43 rfl Tryz.sizeOf3 rfl Z (evg hb rfl) rfl) rfl ?_; clear Z az; intro az Z
 refine LG Z rfl rfl gd_t (fun hb => r_ld Tryz.isAgg3 Z (evg hb rfl) (((E12 (by first | omega | (have h0 := hb; simp only [Bool.and_eq_true, Bool.or_eq_true, Bool.not_eq_true', decide_eq_true_eq, decide_eq_false_iff_not] at h0; omega))) _ (Only.refl NoF w4)) 1 _ rfl)) rfl ?_; clear Z az; intro az Z
 refine LG Z rfl rfl gd_t (fun hb => r_mv Z rfl) rfl ?_; clear Z az; intro az Z
 refine LG Z rfl rfl gd_t (fun hb => r_eqI Z (evg hb rfl) (evg hb rfl)) rfl ?_; clear Z az; intro az Z
 refine L (r_and Z rfl rfl rfl) Z rfl ?_; clear Z az; intro az Z
 refine L (r_mv Z rfl) Z rfl ?_; clear Z az; intro az Z
 refine LG Z rfl rfl gd_t (fun hb => r_mv Z rfl) rfl ?_; clear Z az; intro az Z
 have i13 : I64 (((n : Int) + 1)) := by unfold I64; omega
 refine LG Z rfl rfl gd_t (fun hb => r_addI (r := ((n : Int) + 1)) Z (evg hb rfl) rfl rfl i13) rfl ?_; clear Z az; intro az Z
 refine LG Z rfl rfl gd_t (fun hb => r_mv Z rfl) rfl ?_; clear Z az; intro az Z
 refine LG Z rfl rfl gd_t (fun hb => r_lenL Tryz.underlying22 Z (evg hb rfl)) rfl ?_; clear Z az; intro az Z
 refine LG Z rfl rfl gd_t (fun hb => r_eqI Z (evg hb rfl) (evg hb rfl)) rfl ?_; clear Z az; intro az Z
 refine LG Z rfl rfl gd_t (fun hb => r_mv Z (evg hb rfl)) rfl ?_; clear Z az; intro az Z
 refine LG Z rfl rfl gd_gf (fun hb => r_mv Z rfl) rfl ?_; clear Z az; intro az Z
 refine LG Z rfl rfl gd_gf (fun hb => r_mv Z rfl) rfl ?_; clear Z az; intro az Z
 have i14 : I64 (((n : Int) + 1)) := by unfold I64; omega
 refine LG Z rfl rfl gd_gf (fun hb => r_addI (r := ((n : Int) + 1)) Z (evg hb rfl) rfl rfl i14) rfl ?_; clear Z az; intro az Z
 obtain ⟨m15, hx16⟩ := Row.elg KN0 h9 ((n + 1)) (⟨0, 0, 0, none, [], 0, []⟩ : NM)
 have E17 : ∀ (hp : (n + 1) < (l).length) W, Only NoF w4 W → CA W (eA A 5 ((n + 1))) [.int .i64 (m15.h), .int .i64 (m15.n), .int .i64 (m15.d), .slice m15.A (m15.l.length) m15.c, strV (m15.s)] := fun hp => Row.ce KN0 h9 (hx16 hp).1 rfl
 refine LG Z rfl rfl gd_gf (fun hb => r_ia (k := (n + 1)) (size := 5) Tryz.underlying22 Tryz.sizeOf43 Z (evg hb rfl) (evg hb rfl) rfl (by first | omega | (have h0 := hb; simp only [Bool.and_eq_true, Bool.or_eq_true, Bool.not_eq_true', decide_eq_true_eq, decide_eq_false_iff_not] at h0; omega)) (hx16 (by first | omega | (have h0 := hb; simp only [Bool.and_eq_true, Bool.or_eq_true, Bool.not_eq_true', decide_eq_true_eq, decide_eq_false_iff_not] at h0; omega))).2.2) rfl ?_; clear Z az; intro az Z
 refine LG Z rfl rfl gd_gf (fun hb => r_fa (m' := 1) Tryz.underlying43 rfl Tryz.sizeOf3 rfl Z (evg hb rfl) rfl) rfl ?_; clear Z az; intro az Z
 refine LG Z rfl rfl gd_gf (fun hb => r_ld Tryz.isAgg3 Z (evg hb rfl) (((E17 (by first | omega | (have h0 := hb; simp only [Bool.and_eq_true, Bool.or_eq_true, Bool.not_eq_true', decide_eq_true_eq, decide_eq_false_iff_not] at h0; omega))) _ (Only.refl NoF w4)) 1 _ rfl)) rfl ?_; clear Z az; intro az Z
 refine LG Z rfl rfl gd_gf (fun hb => r_mv Z rfl) rfl ?_; clear Z az; intro az Z
 refine LG Z rfl rfl gd_gf (fun hb => r_gtI Z (evg hb rfl) (evg hb rfl)) rfl ?_; clear Z az; intro az Z
 refine LG Z rfl rfl gd_t (fun hb => r_or Z (evg hb rfl) rfl (evgc hb rfl)) rfl ?_; clear Z az; intro az Z
 refine L (r_and Z rfl rfl rfl) Z rfl ?_; clear Z az; intro az Z
 refine k8 _ _ ?_
 refine br Z rfl (fun hc18 => ?_) (fun hc18 => ?_)
 ·
  have p19 := of_decide_eq_true (and_t (and_t hc18).1).1
  have p20 := of_decide_eq_true (and_t (and_t hc18).1).2
  have d21 := (and_t hc18).2
  refine wp_skip ?_
  refine k7 _ _ ?_
  refine wp_block ?_
  refine wp_region_lit ?_
  refine L (r_mv Z rfl) Z rfl ?_; clear Z az; intro az Z
  have i22 : I64 (((n : Int) + 1)) := by unfold I64; omega
  refine L (r_addI (r := ((n : Int) + 1)) Z rfl rfl rfl i22) Z rfl ?_; clear Z az; intro az Z
  refine L (r_as Z rfl) Z rfl ?_; clear Z az; intro az Z
  exact ⟨_, (by omega), n + 1, rfl, Z.cut ⟨rfl, rfl, trivial⟩, (ok_lt (ok_yes (fun h => (hx11 h).1) (fun h => (hx16 h).1) hc18)), (fun q hq => by rcases Nat.lt_or_ge q n with h | h; exact hk q h; rw [show q = n by omega]; exact (ok_yes (fun h => (hx11 h).1) (fun h => (hx16 h).1) hc18)), o5⟩
 ·
  have d23 := hc18
  have hcn : cntN l = n := cnt_eq hk (ok_no (fun h => (hx11 h).1) (fun h => (hx16 h).1) hc18) hn
  refine wp_exit ?_
  refine th_exit ?_
  refine th_exit ?_
  refine ib_hit ?_
  refine k3 _ _ (wp_seq_k fun _ k24 => wp_region_lit ?_)
  refine L (r_as Z rfl) Z rfl ?_; clear Z az; intro az Z
  refine k24 _ _ (wp_seq_k fun _ k25 => ?_)
  refine wp_seq_k fun _ k26 => wp_region_lit ?_
  refine L (r_as Z rfl) Z rfl ?_; clear Z az; intro az Z
  refine k26 _ _ ?_
  refine wp_block ?_
  refine wp_loop_m (fun mz az W => ∃ i : Nat, ∃ b : Bool, mz = l.length - i ∧ Fr 75 [(0, .slice A (l.length) c), (4, .int .i64 ((n : Int))), (6, .int .i64 ((i : Int))), (5, .bool (b))] az ∧ (1 ≤ i ∧ (i ≤ l.length ∨ i = 1)) ∧ (b = adjN (l.take i)) ∧ Only NoF w4 W) ?_ ?_
  ·
   exact ⟨_, 1, false, rfl, Z.cut ⟨rfl, rfl, rfl, rfl, trivial⟩, ⟨by omega, .inr rfl⟩, (adj_one l).symm, (Only.refl NoF w4)⟩
  clear Z az
  rintro mz az w27 ⟨i, b, hm29, Z, hi, hb1, o28⟩
  refine wp_seq_k fun _ k30 => ?_
  refine wp_seq_k fun _ k31 => wp_region_lit ?_
  refine L (r_mv Z rfl) Z rfl ?_; clear Z az; intro az Z
  refine L (r_mv Z rfl) Z rfl ?_; clear Z az; intro az Z
  refine L (r_lenL Tryz.underlying22 Z rfl) Z rfl ?_; clear Z az; intro az Z
  refine L (r_ltI Z rfl rfl) Z rfl ?_; clear Z az; intro az Z
  refine k31 _ _ ?_
  refine br Z rfl (fun hc32 => ?_) (fun hc32 => ?_)
  ·
   have p33 := of_decide_eq_true hc32
   refine wp_skip ?_
   refine k30 _ _ (wp_seq_k fun _ k34 => ?_)
   refine wp_block ?_
   refine reg_q [(true, 0), (true, 1), (true, 2), (true, 3), (true, 4), (true, 5), (true, 6), (true, 7), (true, 8), (true, 9), (true, 10), (true, 11), (true, 12), (true, 13), (true, 14), (true, 15)] (by kernel_rfl) (by kernel_rfl) (fun _ _ _ _ _ h => h) fun w35 o36 => ?_
   refine M (r_mv Z rfl) Z rfl rfl ?_; clear Z az; intro az Z
   refine M (r_mv Z rfl) Z rfl rfl ?_; clear Z az; intro az Z
   refine MG Z rfl rfl gd_f (fun hb => r_mv Z rfl) rfl rfl ?_; clear Z az; intro az Z
   refine MG Z rfl rfl gd_f (fun hb => r_mv Z rfl) rfl rfl ?_; clear Z az; intro az Z
   have O37 : Only NoF w w35 := (Only.trans' (Only.trans' o5 o28) o36)
   have h38 := (SliceOf.kp t.1 O37 (fun _ _ h => h) (fun _ _ _ _ h => h))
   obtain ⟨m39, hx40⟩ := Row.elg KN0 h38 (i) (⟨0, 0, 0, none, [], 0, []⟩ : NM)
   have E41 : ∀ (hp : i < (l).length) W, Only NoF w35 W → CA W (eA A 5 (i)) [.int .i64 (m39.h), .int .i64 (m39.n), .int .i64 (m39.d), .slice m39.A (m39.l.length) m39.c, strV (m39.s)] := fun hp => Row.ce KN0 h38 (hx40 hp).1 rfl
   refine MG Z rfl rfl gd_f (fun hb => r_ia (k := i) (size := 5) Tryz.underlying22 Tryz.sizeOf43 Z (evg hb rfl) (evg hb rfl) rfl (by first | omega | (have h0 := hb; simp only [Bool.and_eq_true, Bool.or_eq_true, Bool.not_eq_true', decide_eq_true_eq, decide_eq_false_iff_not] at h0; omega)) (hx40 (by first | omega | (have h0 := hb; simp only [Bool.and_eq_true, Bool.or_eq_true, Bool.not_eq_true', decide_eq_true_eq, decide_eq_false_iff_not] at h0; omega))).2.2) rfl rfl ?_; clear Z az; intro az Z
   refine MG Z rfl rfl gd_f (fun hb => r_fa (m' := 1) Tryz.underlying43 rfl Tryz.sizeOf3 rfl Z (evg hb rfl) rfl) rfl rfl ?_; clear Z az; intro az Z
   refine MG Z rfl rfl gd_f (fun hb => r_ld Tryz.isAgg3 Z (evg hb rfl) (((E41 (by first | omega | (have h0 := hb; simp only [Bool.and_eq_true, Bool.or_eq_true, Bool.not_eq_true', decide_eq_true_eq, decide_eq_false_iff_not] at h0; omega))) _ (Only.refl NoF w35)) 1 _ rfl)) rfl rfl ?_; clear Z az; intro az Z
   refine MG Z rfl rfl gd_f (fun hb => r_mv Z rfl) rfl rfl ?_; clear Z az; intro az Z
   refine MG Z rfl rfl gd_f (fun hb => r_mv Z rfl) rfl rfl ?_; clear Z az; intro az Z
   have i42 : I64 (((i : Int) - 1)) := by unfold I64; omega
   refine MG Z rfl rfl gd_f (fun hb => r_subI (r := ((i : Int) - 1)) Z (evg hb rfl) rfl rfl i42) rfl rfl ?_; clear Z az; intro az Z
   obtain ⟨m43, hx44⟩ := Row.elg KN0 h38 ((i - 1)) (⟨0, 0, 0, none, [], 0, []⟩ : NM)
   have E45 : ∀ (hp : (i - 1) < (l).length) W, Only NoF w35 W → CA W (eA A 5 ((i - 1))) [.int .i64 (m43.h), .int .i64 (m43.n), .int .i64 (m43.d), .slice m43.A (m43.l.length) m43.c, strV (m43.s)] := fun hp => Row.ce KN0 h38 (hx44 hp).1 rfl
   refine MG Z rfl rfl gd_f (fun hb => r_ia (k := (i - 1)) (size := 5) Tryz.underlying22 Tryz.sizeOf43 Z (evg hb rfl) (evg hb rfl) (by omega) (by first | omega | (have h0 := hb; simp only [Bool.and_eq_true, Bool.or_eq_true, Bool.not_eq_true', decide_eq_true_eq, decide_eq_false_iff_not] at h0; omega)) (hx44 (by first | omega | (have h0 := hb; simp only [Bool.and_eq_true, Bool.or_eq_true, Bool.not_eq_true', decide_eq_true_eq, decide_eq_false_iff_not] at h0; omega))).2.2) rfl rfl ?_; clear Z az; intro az Z
   refine MG Z rfl rfl gd_f (fun hb => r_fa (m' := 1) Tryz.underlying43 rfl Tryz.sizeOf3 rfl Z (evg hb rfl) rfl) rfl rfl ?_; clear Z az; intro az Z
   refine MG Z rfl rfl gd_f (fun hb => r_ld Tryz.isAgg3 Z (evg hb rfl) (((E45 (by first | omega | (have h0 := hb; simp only [Bool.and_eq_true, Bool.or_eq_true, Bool.not_eq_true', decide_eq_true_eq, decide_eq_false_iff_not] at h0; omega))) _ (Only.refl NoF w35)) 1 _ rfl)) rfl rfl ?_; clear Z az; intro az Z
   refine MG Z rfl rfl gd_f (fun hb => r_eqI Z (evg hb rfl) (evg hb rfl)) rfl rfl ?_; clear Z az; intro az Z
   refine M (r_or Z rfl rfl rfl) Z rfl rfl ?_; clear Z az; intro az Z
   refine M (r_as Z rfl) Z rfl rfl ?_; clear Z az; intro az Z
   refine wpMix_nil ?_
   refine k34 _ _ ?_
   refine wp_region_lit ?_
   refine L (r_mv Z rfl) Z rfl ?_; clear Z az; intro az Z
   have i46 : I64 (((i : Int) + 1)) := by unfold I64; omega
   refine L (r_addI (r := ((i : Int) + 1)) Z rfl rfl rfl i46) Z rfl ?_; clear Z az; intro az Z
   refine L (r_as Z rfl) Z rfl ?_; clear Z az; intro az Z
   have O47 : Only NoF w4 w35 := (Only.trans' o28 o36)
   exact ⟨_, (by omega), i + 1, _, rfl, Z.cut ⟨rfl, rfl, rfl, rfl, trivial⟩, ⟨by omega, .inl (by omega)⟩, (by rw [adj_step hi.1 ((fun h => (hx44 h).1) (by omega)) ((fun h => (hx40 h).1) (by omega)), ← hb1]), O47⟩
  ·
   have p48 := of_decide_eq_false hc32
   refine wp_exit ?_
   refine th_exit ?_
   refine th_exit ?_
   refine ib_hit ?_
   refine k25 _ _ (wp_seq_k fun _ k49 => ?_)
   refine wp_block ?_
   refine wp_loop_m (fun mz az W => ∃ k : Nat, ∃ z : Int, mz = k ∧ Fr 75 [(0, .slice A (l.length) c), (5, .bool (b)), (4, .int .i64 (z))] az ∧ (z = (k : Int)) ∧ (k ≤ n) ∧ (dwnN l k = dwnN l n) ∧ Only NoF w27 W) ?_ ?_
   ·
    exact ⟨_, n, (n : Int), rfl, Z.cut ⟨rfl, rfl, rfl, trivial⟩, rfl, (Nat.le_refl _), rfl, (Only.refl NoF w27)⟩
   clear Z az
   rintro mz az w50 ⟨k, z, hm52, Z, hz, hkn, hd, o51⟩
   refine wp_seq_k fun _ k53 => ?_
   refine wp_seq_k fun _ k54 => wp_region_lit ?_
   refine L (r_mv Z rfl) Z rfl ?_; clear Z az; intro az Z
   refine L (r_gtI Z rfl rfl) Z rfl ?_; clear Z az; intro az Z
   refine L (r_mv Z rfl) Z rfl ?_; clear Z az; intro az Z
   refine LG Z rfl rfl gd_t (fun hb => r_mv Z rfl) rfl ?_; clear Z az; intro az Z
   refine LG Z rfl rfl gd_t (fun hb => r_mv Z rfl) rfl ?_; clear Z az; intro az Z
   have O56 : Only NoF w w50 := (Only.trans' (Only.trans' o5 o28) o51)
   have nt55 := NtV.top (m := k) (NtV.k t O56) (by omega)
   have hl57 : z = ((List.take k l).length : Int) := by rw [List.length_take, Nat.min_eq_left (by omega)]; omega
   have hc58 : (List.take k l).length ≤ c := Nat.le_trans (by rw [List.length_take]; omega) (SliceOf.cap_ (NtV.k t O56).1)
   refine LG Z rfl rfl gd_t (fun hb => r_slh (m := (List.take k l).length) (size := 5) Tryz.underlying22 Tryz.sizeOf43 Z (evg hb rfl) (evg hb rfl) hl57 hc58) rfl ?_; clear Z az; intro az Z
   refine LGV (v := .int .i64 ((check (List.take k l)))) Z rfl rfl gd_t rfl (fun hb => (evs_c (evg hb rfl) rfl)) Tryz.call96 (fun hb => Check_v (NtV.notes nt55)) rfl fun w59 o60 => ?_; clear Z az; intro az Z
   refine LG Z rfl rfl gd_t (fun hb => r_neI Z (evg hb rfl) rfl) rfl ?_; clear Z az; intro az Z
   refine L (r_and Z rfl rfl rfl) Z rfl ?_; clear Z az; intro az Z
   refine k54 _ _ ?_
   refine br Z rfl (fun hc61 => ?_) (fun hc61 => ?_)
   ·
    have p62 := of_decide_eq_true (and_t hc61).1
    have p63 := of_decide_eq_false (nt_t (and_t hc61).2)
    refine wp_skip ?_
    refine k53 _ _ ?_
    refine wp_block ?_
    refine wp_region_lit ?_
    refine L (r_mv Z rfl) Z rfl ?_; clear Z az; intro az Z
    have i64 : I64 ((z - 1)) := by unfold I64; omega
    refine L (r_subI (r := (z - 1)) Z rfl rfl rfl i64) Z rfl ?_; clear Z az; intro az Z
    refine L (r_as Z rfl) Z rfl ?_; clear Z az; intro az Z
    have hdn := dwn_next hz hc61
    have O65 : Only NoF w27 w59 := (Only.trans' o51 o60)
    exact ⟨_, (by omega), (k - 1), (z - 1), rfl, Z.cut ⟨rfl, rfl, rfl, trivial⟩, (by have := hdn.1; omega), (by omega), (hdn.2.trans hd), O65⟩
   ·
    have d66 := hc61
    refine wp_exit ?_
    refine th_exit ?_
    refine th_exit ?_
    refine ib_hit ?_
    refine k49 _ _ (wp_seq_k fun _ k67 => wp_region_lit ?_)
    refine L (r_mv Z rfl) Z rfl ?_; clear Z az; intro az Z
    refine L (r_mv Z rfl) Z rfl ?_; clear Z az; intro az Z
    have O69 : Only NoF w w59 := (Only.trans' O56 o60)
    have nt68 := NtV.top (m := k) (NtV.k t O69) (by omega)
    have hl70 : z = ((List.take k l).length : Int) := by rw [List.length_take, Nat.min_eq_left (by omega)]; omega
    have hc71 : (List.take k l).length ≤ c := Nat.le_trans (by rw [List.length_take]; omega) (SliceOf.cap_ (NtV.k t O69).1)
    refine L (r_slh (m := (List.take k l).length) (size := 5) Tryz.underlying22 Tryz.sizeOf43 Z rfl rfl hl70 hc71) Z rfl ?_; clear Z az; intro az Z
    refine L (r_mv Z rfl) Z rfl ?_; clear Z az; intro az Z
    refine L (r_as Z rfl) Z rfl ?_; clear Z az; intro az Z
    refine L (r_as Z rfl) Z rfl ?_; clear Z az; intro az Z
    refine k67 _ _ ?_
    refine wp_ret ?_
    show bodyPost _ _ _ .ret _ _
    refine ret_of (vs := [.slice (slA A c 0 5) ((List.take k l).length) c, .bool (b)]) Z Tryz.results58 ⟨rfl, rfl, trivial⟩ ?_
    have e1 : k = dwnN l (cntN l) := by rw [hcn, ← hd, dwn_stop hz hc61]
    have e2 : b = adjN l := by rw [hb1, List.take_of_length_le (by omega)]
    subst e1 e2; exact ⟨rfl, O69⟩
end
section
open Go.RowKit
/-! ### rows in S -/
def NtS (S : Nat → Prop) (w : World) (v : Value) (l : List NM) : Prop := SliceOf S 5 KN0.R w v l ∧ OkNs S w l
section
variable {S S' F : Nat → Prop} {w w' : World} {v : Value} {l : List NM} {A : Option Addr} {c m b : Nat}
theorem NtS.only (h : NtS S w v l) (o : Only F w w') (hS : ∀ k, S k → ¬ F k) : NtS S w' v l := ⟨SliceOf.kp h.1 o hS (fun _ _ _ _ h => h), h.2.only o hS⟩
theorem NtS.k (h : NtS S w v l) (o : Only NoF w w') : NtS S w' v l := h.only o fun _ _ h => h
theorem NtS.sup (h : NtS S w v l) (hS : ∀ k, S k → S' k) : NtS S' w v l := ⟨SliceOf.sup h.1 hS, h.2.sup hS⟩
theorem NtS.nt (h : NtS S w v l) : NtV w v l := ⟨SliceOf.pl h.1, h.2.pl⟩
theorem NtS.top (h : NtS S w (.slice A l.length c) l) (hm : m ≤ l.length) : NtS S w (.slice (slA A c 0 5) (l.take m).length c) (l.take m) :=
 ⟨SliceOf.top h.1 hm, fun x hx => h.2 x (List.mem_of_mem_take hx)⟩
theorem NtS.tail (h : NtS S w (.slice A l.length c) l) (hm : m ≤ l.length) : NtS S w (.slice (slA A c m 5) (l.drop m).length (c - m)) (l.drop m) :=
 ⟨SliceOf.tail h.1 hm, fun x hx => h.2 x (List.mem_of_mem_drop hx)⟩
theorem NtS.nil : NtS S w (.slice none 0 0) [] := ⟨SliceOf.nil_ _ _ _, OkNs.nil⟩
theorem SliceOf.lt2 {α : Type} {K : Row α} {l : List α} (h : SliceOf S K.size K.R w v l) : SliceOf (fun k => S k ∧ k < w.heap.size) K.size K.R w v l := by
 obtain ⟨A, cap, xs, e, q1, q2, q3, q4⟩ := h
 refine ⟨A, cap, xs, e, q1, q2, ⟨q3.1, fun hn => ?_⟩, q4⟩
 obtain ⟨ad, e, hg, hl, hc⟩ := q3.2 hn
 exact ⟨ad, e, ⟨hg, hl⟩, hl, hc⟩
theorem okN.lt3 {m : NM} (h : okN S w m) : okN (fun k => S k ∧ k < w.heap.size) w m := by
 obtain ⟨h1, h2, h3, ⟨A, cap, xs, e, q1, q2, q3, q4⟩, h5⟩ := h
 refine ⟨h1, h2, h3, ⟨A, cap, xs, e, q1, q2, ⟨q3.1, fun hn => ?_⟩, q4⟩, h5⟩
 obtain ⟨ad, e, hg, hl, hc⟩ := q3.2 hn
 exact ⟨ad, e, ⟨hg, hl⟩, hl, hc⟩
theorem NtS.lt (h1 : SliceOf S 5 KN0.R w v l) (h2 : OkNs S w l) : NtS (fun k => S k ∧ k < w.heap.size) w v l :=
 ⟨SliceOf.lt2 (K := KN0) h1, fun m hm => (h2 m hm).lt3⟩
end
/-! ### rows of houses -/
structure HR where
 h : Int
 A : Option Addr
 p : List NM
 c : Nat
 f : Bool
 t : Nat
structure HM where
 h : Int
 p : List NM
 f : Bool
 t : Nat
def hm (x : HR) : HM := ⟨x.h, x.p.map ns, x.f, x.t⟩
def KH0 : Row HR := ⟨4, fun m => [.int .i64 m.h, .slice m.A m.p.length m.c, .bool m.f, .int .i64 (m.t : Int)], fun _ => True, fun _ => rfl, by decide, fun x u hu => by
 simp at hu
 rcases hu with rfl | rfl | rfl | rfl <;> rfl⟩
def OkHs (S : Nat → Prop) (w : World) (H : List HR) : Prop := ∀ x ∈ H, NtS S w (.slice x.A x.p.length x.c) x.p
section
variable {S S' F : Nat → Prop} {w w' : World} {H : List HR} {x : HR}
theorem OkHs.only (h : OkHs S w H) (o : Only F w w') (hS : ∀ k, S k → ¬ F k) : OkHs S w' H := fun x hx => (h x hx).only o hS
theorem OkHs.k (h : OkHs S w H) (o : Only NoF w w') : OkHs S w' H := h.only o fun _ _ h => h
theorem OkHs.sup (h : OkHs S w H) (hS : ∀ k, S k → S' k) : OkHs S' w H := fun x hx => (h x hx).sup hS
theorem OkHs.nil : OkHs S w [] := fun x hx => by cases hx
theorem OkHs.app (h : OkHs S w H) (hx : NtS S w (.slice x.A x.p.length x.c) x.p) : OkHs S w (H ++ [x]) := fun y hy => by
 rcases List.mem_append.1 hy with e | e
 · exact h y e
 · rw [List.mem_singleton.1 e]; exact hx
end
theorem elemHouse : ElemIs Tryz.prog 66 69 4 48 := by
 obtain ⟨i, h1, h2, h3, h4⟩ := info_parts (show (Tryz.prog.info? 69).map (fun i => (i.zero, i.size, i.bytes)) = some (some (.agg #[.int .i64 0, .slice none 0 0, .bool false, .int .i64 0]), 4, 48) by kernel_rfl)
 exact ⟨Tryz.underlying66, i, _, h1, h2, h3, h4, rfl⟩
theorem build_House1 (h : Int) (w : World) : (Instr.build 69 #[(0, .int .i64 h)]).run Tryz.prog w = .ok (.agg #[.int .i64 h, .slice none 0 0, .bool false, .int .i64 0]) w := by kernel_rfl
/-! ### houses -/
/-- how many notes stand at the head that are of the first one's house -/
def runLen : List NM → Nat
 | [] => 0
 | a :: r => 1 + (r.takeWhile fun x => decide (x.h = a.h)).length
def housesF : Nat → List NM → List HM
 | 0, _ => []
 | _, [] => []
 | f + 1, a :: r => ⟨a.h, pastN ((a :: r).take (runLen (a :: r))), adjN ((a :: r).take (runLen (a :: r))), 0⟩ :: housesF f ((a :: r).drop (runLen (a :: r)))
/-- what a joined list says of houses -/
def houN (J : List NM) : List HM := housesF J.length J
section
variable {R : List NM} {a m m0 : NM} {n : Nat}
theorem run_pos (a : NM) (r : List NM) : 0 < runLen (a :: r) := by show 0 < 1 + _; omega
theorem hf_same : ∀ (f g : Nat) (l : List NM), l.length ≤ f → l.length ≤ g → housesF f l = housesF g l
 | 0, g, l, h1, _ => by
  have : l = [] := List.eq_nil_of_length_eq_zero (by omega)
  subst this
  cases g <;> rfl
 | f + 1, 0, l, _, h2 => by
  have : l = [] := List.eq_nil_of_length_eq_zero (by omega)
  subst this; rfl
 | f + 1, g + 1, [], _, _ => rfl
 | f + 1, g + 1, a :: r, h1, h2 => by
  unfold housesF
  rw [hf_same f g]
  · rw [List.length_drop]; have := run_pos a r; omega
  · rw [List.length_drop]; have := run_pos a r; omega
theorem hou_step (h0 : R[0]? = some a) (hn : runLen R = n) : housesF R.length R = ⟨a.h, pastN (R.take n), adjN (R.take n), 0⟩ :: housesF (R.drop n).length (R.drop n) := by
 cases R with
 | nil => simp at h0
 | cons b r =>
  have : b = a := by simpa using h0
  subst this hn
  show housesF (r.length + 1) (b :: r) = _
  conv => lhs; unfold housesF
  rw [hf_same r.length ((b :: r).drop (runLen (b :: r))).length]
  · rw [List.length_drop]; have := run_pos b r; simp only [List.length_cons]; omega
  · exact Nat.le_refl _
theorem tw_len {p : NM → Bool} : ∀ {r : List NM} {n : Nat}, n ≤ r.length → (∀ q x, q < n → r[q]? = some x → p x = true) → (∀ x, r[n]? = some x → p x = false) → (r.takeWhile p).length = n
 | [], n, h1, _, _ => by simp at h1; subst h1; rfl
 | x :: r, 0, _, _, h3 => by
  have := h3 x rfl
  rw [List.takeWhile_cons_of_neg (by rw [this]; decide)]
  rfl
 | x :: r, n + 1, h1, h2, h3 => by
  rw [List.takeWhile_cons_of_pos (h2 0 x (by omega) rfl)]
  simp only [List.length_cons, Nat.add_left_inj]
  exact tw_len (by simpa using h1) (fun q y hq hy => h2 (q + 1) y (by omega) (by simpa using hy)) (fun y hy => h3 y (by simpa using hy))
theorem run_next (h0 : R[0]? = some a) (hq : ∀ q x, q < n → R[q]? = some x → x.h = a.h) (hm : R[n]? = some m) (hm0 : R[0]? = some m0) (e : m.h = m0.h) : ∀ q x, q < n + 1 → R[q]? = some x → x.h = a.h := by
 intro q x h1 h2
 rcases Nat.lt_or_ge q n with h | h
 · exact hq q x h h2
 · have : q = n := by omega
   subst this
   rw [hm] at h2
   rw [h0] at hm0
   injection h2 with h2
   injection hm0 with hm0
   rw [← h2, e, ← hm0]
theorem run_stop (h0 : R[0]? = some a) (hq : ∀ q x, q < n → R[q]? = some x → x.h = a.h) (h1 : 1 ≤ n) (h2 : n ≤ R.length) (hm : n < R.length → R[n]? = some m) (hm0 : n < R.length → R[0]? = some m0) (h : (decide ((n : Int) < ((R.length : Nat) : Int)) && decide (m.h = m0.h)) = false) : runLen R = n := by
 cases R with
 | nil => simp at h0
 | cons b r =>
  have : b = a := by simpa using h0
  subst this
  obtain ⟨k, rfl⟩ : ∃ k, n = k + 1 := ⟨n - 1, by omega⟩
  show 1 + (r.takeWhile fun x => decide (x.h = b.h)).length = k + 1
  rw [tw_len (n := k) (by simpa using h2)]
  · omega
  · intro q x h3 h4
    exact decide_eq_true (hq (q + 1) x (by omega) (by simpa using h4))
  · intro x hx
    have hl := (List.getElem?_eq_some_iff.1 hx).1
    have h3 : k + 1 < (b :: r).length := by simp only [List.length_cons]; omega
    have e1 := hm h3
    have e2 := hm0 h3
    rw [decide_eq_true (by simp only [List.length_cons] at h3 ⊢; omega), Bool.true_and] at h
    have e3 : m = x := by
     have : (b :: r)[k + 1]? = some x := by simpa using hx
     rw [e1] at this; injection this
    have e4 : b = m0 := by simpa using e2
    rw [← e3, e4]
    exact h
theorem get_map (R : List NM) (k : Nat) : (R.map ns)[k]? = (R[k]?).map ns := List.getElem?_map ..
theorem okAt_map (R : List NM) (k : Nat) : okAt (R.map ns) k = okAt R k := by
 unfold okAt
 rw [get_map, get_map]
 cases R[k]? with
 | none => rfl
 | some m => cases R[k + 1]? <;> rfl
theorem cnt_map (R : List NM) : cntN (R.map ns) = cntN R :=
 cnt_eq (fun q h => (okAt_map R q).trans ((cnt_spec R).1 q h)) ((okAt_map R _).trans (cnt_spec R).2) (by rw [List.length_map]; exact cnt_le R)
theorem dwn_map (R : List NM) : ∀ n, dwnN (R.map ns) n = dwnN R n
 | 0 => rfl
 | n + 1 => by
  unfold dwnN
  rw [← List.map_take, check_ns, dwn_map R n]
theorem past_map (R : List NM) : pastN (R.map ns) = (pastN R).map ns := by
 unfold pastN
 rw [cnt_map, dwn_map, List.map_take]
theorem adj_map : ∀ R : List NM, adjN (R.map ns) = adjN R
 | [] => rfl
 | [a] => rfl
 | a :: b :: r => by
  have := adj_map (b :: r)
  simp only [List.map_cons] at this ⊢
  unfold adjN
  rw [this]; rfl
theorem run_map (R : List NM) : runLen (R.map ns) = runLen R := by
 cases R with
 | nil => rfl
 | cons a r =>
  show 1 + ((r.map ns).takeWhile _).length = 1 + (r.takeWhile _).length
  rw [List.takeWhile_map, List.length_map]
  rfl
theorem hou_stepM (h0 : R[0]? = some a) (hn : runLen R = n) : housesF (R.map ns).length (R.map ns) = ⟨a.h, (pastN (R.take n)).map ns, adjN (R.take n), 0⟩ :: housesF ((R.drop n).map ns).length ((R.drop n).map ns) := by
 rw [hou_step (a := ns a) (by rw [get_map, h0]; rfl) ((run_map R).trans hn), ← List.map_take, past_map, adj_map, ← List.map_drop]
 rfl
end
theorem Join1_v {w : World} (hG : Gr w) {l : List NM} {A : Option Addr} {c : Nat} (t : NtV w (.slice A l.length c) l) (hl : l.length ≤ 1000000) : Calls Tryz.prog 10 [.slice A l.length c, .slice none 0 0].toArray w (NOut (joinN l) w) := by
 have := Join_v_ hG t (l2 := []) (A2 := none) (c2 := 0) (NtV.nil w) (by simpa using hl)
 rwa [List.append_nil] at this
def HOut (N : List HM) (w : World) (e : Ending) (w' : World) : Prop := ∃ A c, ∃ H : List HR, e = .returned (.slice A H.length c) ∧ H.map hm = N ∧ w'.ownsRow w.heap.size 69 4 (.slice A H.length c) H.length (H.flatMap KH0.cells) ∧ OkHs (fun k => w.heap.size ≤ k ∧ ¬ ownF (.slice A H.length c) k) w' H ∧ Only NoF w w'
end
section
open Go.RowKit
theorem houses_v_ {w : World} (hG : Gr w) {l : List NM} {A : Option Addr} {c : Nat} (t : NtV w (.slice A l.length c) l) (hl : l.length ≤ 1000000) : Calls Tryz.prog 36 [.slice A l.length c].toArray w (HOut (houN (joinN l)) w) := by
 refine calls_start Tryz.func36 rfl rfl ?_
 intro az Z
 rw [Tryz.ntmps36] at Z
 refine wp_seq_k fun _ k1 => wp_region_lit ?_
 refine L (r_as Z rfl) Z rfl ?_; clear Z az; intro az Z
 refine k1 _ _ (wp_seq_k fun _ k2 => wp_region_lit ?_)
 refine L (r_mv Z rfl) Z rfl ?_; clear Z az; intro az Z
 have G11 := Gr.k hG (Only.refl NoF w)
 refine LC Z rfl rfl Tryz.call10 (Join1_v G11 t hl) rfl ?_
 rintro e w3 ⟨A5, c6, L7, rfl, hL8, hS9, hN10, o4⟩; refine ⟨_, rfl, ?_⟩
 have hS12 := NtS.lt hS9 hN10
 have hl13 : L7.length ≤ 1000000 := Nat.le_trans (joinN_len hL8) hl
 clear Z az; intro az Z
 refine L (r_as Z rfl) Z rfl ?_; clear Z az; intro az Z
 refine k2 _ _ (wp_seq_k fun _ k14 => wp_region_lit ?_)
 refine L (r_as Z rfl) Z rfl ?_; clear Z az; intro az Z
 refine k14 _ _ (wp_seq_k fun _ k15 => ?_)
 refine wp_block ?_
 refine wp_loop_m (fun mz az W => ∃ R : List NM, ∃ Aa : Option Addr, ∃ ca : Nat, ∃ H : List HR, ∃ Ah : Option Addr, ∃ ch : Nat, mz = R.length ∧ Fr 52 [(3, .slice Aa (R.length) ca), (4, .slice Ah (H.length) ch)] az ∧ (H.map hm ++ housesF (R.map ns).length (R.map ns) = houN (L7.map ns)) ∧ (H.length + R.length ≤ L7.length) ∧ Only NoF w3 W ∧ W.ownsRow w3.heap.size 69 4 (.slice Ah H.length ch) H.length (List.flatMap KH0.cells H) ∧ NtS (fun k => geB w.heap.size k ∧ k < w3.heap.size) W (.slice Aa R.length ca) R ∧ OkHs (fun k => geB w.heap.size k ∧ k < w3.heap.size) W H) ?_ ?_
 ·
  exact ⟨_, L7, A5, c6, [], none, 0, rfl, Z.cut ⟨rfl, rfl, trivial⟩, rfl, (by simp), (Only.refl NoF w3), (World.ownsRow_nil _ _ _ _), hS12, OkHs.nil⟩
 clear Z az
 rintro mz az w16 ⟨R, Aa, ca, H, Ah, ch, hm18, Z, hH, hHl, o17, rO, hS, hOk⟩
 have hSp := NtS.nt hS
 refine wp_seq_k fun _ k19 => ?_
 refine wp_seq_k fun _ k20 => wp_region_lit ?_
 refine L (r_mv Z rfl) Z rfl ?_; clear Z az; intro az Z
 refine L (r_lenL Tryz.underlying22 Z rfl) Z rfl ?_; clear Z az; intro az Z
 refine L (r_gtI Z rfl rfl) Z rfl ?_; clear Z az; intro az Z
 refine k20 _ _ ?_
 refine br Z rfl (fun hc21 => ?_) (fun hc21 => ?_)
 ·
  have p22 := of_decide_eq_true hc21
  obtain ⟨a0, ha⟩ : ∃ a, R[0]? = some a := ⟨R[0], List.getElem?_eq_getElem (by omega)⟩
  refine wp_skip ?_
  refine k19 _ _ ?_
  refine wp_block ?_
  refine wp_seq_k fun _ k23 => wp_region_lit ?_
  refine L (r_as Z rfl) Z rfl ?_; clear Z az; intro az Z
  refine k23 _ _ (wp_seq_k fun _ k24 => ?_)
  refine wp_block ?_
  refine wp_loop_m (fun mz az W => ∃ n : Nat, mz = R.length - n ∧ Fr 52 [(3, .slice Aa (R.length) ca), (4, .slice Ah (H.length) ch), (5, .int .i64 ((n : Int)))] az ∧ (1 ≤ n ∧ n ≤ R.length) ∧ (∀ q x, q < n → R[q]? = some x → x.h = a0.h) ∧ Only NoF w16 W) ?_ ?_
  ·
   exact ⟨_, 1, rfl, Z.cut ⟨rfl, rfl, rfl, trivial⟩, ⟨Nat.le_refl _, by omega⟩, (fun q x hq hx => by rw [show q = 0 by omega, ha] at hx; injection hx with hx; rw [hx]), (Only.refl NoF w16)⟩
  clear Z az
  rintro mz az w25 ⟨n, hm27, Z, hn, hq, o26⟩
  refine wp_seq_k fun _ k28 => ?_
  refine wp_seq_k fun _ k29 => ?_
  refine reg_q [(true, 0), (true, 1), (true, 2), (true, 3), (true, 4), (true, 5), (true, 6), (true, 7), (true, 8), (true, 9), (true, 10), (true, 11), (true, 12), (true, 13), (true, 14), (true, 15)] (by kernel_rfl) (by kernel_rfl) (fun _ _ _ _ _ h => h) fun w30 o31 => ?_
  refine M (r_mv Z rfl) Z rfl rfl ?_; clear Z az; intro az Z
  refine M (r_mv Z rfl) Z rfl rfl ?_; clear Z az; intro az Z
  refine M (r_lenL Tryz.underlying22 Z rfl) Z rfl rfl ?_; clear Z az; intro az Z
  refine M (r_ltI Z rfl rfl) Z rfl rfl ?_; clear Z az; intro az Z
  refine M (r_mv Z rfl) Z rfl rfl ?_; clear Z az; intro az Z
  refine MG Z rfl rfl gd_t (fun hb => r_mv Z rfl) rfl rfl ?_; clear Z az; intro az Z
  refine MG Z rfl rfl gd_t (fun hb => r_mv Z rfl) rfl rfl ?_; clear Z az; intro az Z
  have O32 : Only NoF w16 w30 := (Only.trans' o26 o31)
  have h33 := (SliceOf.kp hSp.1 O32 (fun _ _ h => h) (fun _ _ _ _ h => h))
  obtain ⟨m34, hx35⟩ := Row.elg KN0 h33 (n) (⟨0, 0, 0, none, [], 0, []⟩ : NM)
  have E36 : ∀ (hp : n < (R).length) W, Only NoF w30 W → CA W (eA Aa 5 (n)) [.int .i64 (m34.h), .int .i64 (m34.n), .int .i64 (m34.d), .slice m34.A (m34.l.length) m34.c, strV (m34.s)] := fun hp => Row.ce KN0 h33 (hx35 hp).1 rfl
  refine MG Z rfl rfl gd_t (fun hb => r_ia (k := n) (size := 5) Tryz.underlying22 Tryz.sizeOf43 Z (evg hb rfl) (evg hb rfl) rfl (by first | omega | (have h0 := hb; simp only [Bool.and_eq_true, Bool.or_eq_true, Bool.not_eq_true', decide_eq_true_eq, decide_eq_false_iff_not] at h0; omega)) (hx35 (by first | omega | (have h0 := hb; simp only [Bool.and_eq_true, Bool.or_eq_true, Bool.not_eq_true', decide_eq_true_eq, decide_eq_false_iff_not] at h0; omega))).2.2) rfl rfl ?_; clear Z az; intro az Z
  refine MG Z rfl rfl gd_t (fun hb => r_fa (m' := 0) Tryz.underlying43 rfl Tryz.sizeOf3 rfl Z (evg hb rfl) rfl) rfl rfl ?_; clear Z az; intro az Z
  refine MG Z rfl rfl gd_t (fun hb => r_ld Tryz.isAgg3 Z (evg hb rfl) (((E36 (by first | omega | (have h0 := hb; simp only [Bool.and_eq_true, Bool.or_eq_true, Bool.not_eq_true', decide_eq_true_eq, decide_eq_false_iff_not] at h0; omega))) _ (Only.refl NoF w30)) 0 _ rfl)) rfl rfl ?_; clear Z az; intro az Z
  refine MG Z rfl rfl gd_t (fun hb => r_mv Z rfl) rfl rfl ?_; clear Z az; intro az Z
  obtain ⟨m37, hx38⟩ := Row.elg KN0 h33 (0) (⟨0, 0, 0, none, [], 0, []⟩ : NM)
  have E39 : ∀ (hp : 0 < (R).length) W, Only NoF w30 W → CA W (eA Aa 5 (0)) [.int .i64 (m37.h), .int .i64 (m37.n), .int .i64 (m37.d), .slice m37.A (m37.l.length) m37.c, strV (m37.s)] := fun hp => Row.ce KN0 h33 (hx38 hp).1 rfl
  refine MG Z rfl rfl gd_t (fun hb => r_ia (k := 0) (size := 5) Tryz.underlying22 Tryz.sizeOf43 Z (evg hb rfl) rfl rfl (by first | omega | (have h0 := hb; simp only [Bool.and_eq_true, Bool.or_eq_true, Bool.not_eq_true', decide_eq_true_eq, decide_eq_false_iff_not] at h0; omega)) (hx38 (by first | omega | (have h0 := hb; simp only [Bool.and_eq_true, Bool.or_eq_true, Bool.not_eq_true', decide_eq_true_eq, decide_eq_false_iff_not] at h0; omega))).2.2) rfl rfl ?_; clear Z az; intro az Z
  refine MG Z rfl rfl gd_t (fun hb => r_fa (m' := 0) Tryz.underlying43 rfl Tryz.sizeOf3 rfl Z (evg hb rfl) rfl) rfl rfl ?_; clear Z az; intro az Z
  refine MG Z rfl rfl gd_t (fun hb => r_ld Tryz.isAgg3 Z (evg hb rfl) (((E39 (by first | omega | (have h0 := hb; simp only [Bool.and_eq_true, Bool.or_eq_true, Bool.not_eq_true', decide_eq_true_eq, decide_eq_false_iff_not] at h0; omega))) _ (Only.refl NoF w30)) 0 _ rfl)) rfl rfl ?_; clear Z az; intro az Z
  refine MG Z rfl rfl gd_t (fun hb => r_eqI Z (evg hb rfl) (evg hb rfl)) rfl rfl ?_; clear Z az; intro az Z
  refine M (r_and Z rfl rfl rfl) Z rfl rfl ?_; clear Z az; intro az Z
  refine wpMix_nil ?_
  refine k29 _ _ ?_
  refine br Z rfl (fun hc40 => ?_) (fun hc40 => ?_)
  ·
   have p41 := of_decide_eq_true (and_t hc40).1
   have p42 := of_decide_eq_true (and_t hc40).2
   refine wp_skip ?_
   refine k28 _ _ ?_
   refine wp_block ?_
   refine wp_region_lit ?_
   refine L (r_mv Z rfl) Z rfl ?_; clear Z az; intro az Z
   have i43 : I64 (((n : Int) + 1)) := by unfold I64; omega
   refine L (r_addI (r := ((n : Int) + 1)) Z rfl rfl rfl i43) Z rfl ?_; clear Z az; intro az Z
   refine L (r_as Z rfl) Z rfl ?_; clear Z az; intro az Z
   have hb9 := and_t hc40
   have hb8 := of_decide_eq_true hb9.1
   exact ⟨_, (by omega), n + 1, rfl, Z.cut ⟨rfl, rfl, rfl, trivial⟩, ⟨by omega, by omega⟩, (run_next ha hq ((fun h => (hx35 h).1) (by omega)) ((fun h => (hx38 h).1) (by omega)) (of_decide_eq_true hb9.2)), O32⟩
  ·
   have d44 := hc40
   have hrl : runLen R = n := run_stop ha hq hn.1 hn.2 (fun h => (hx35 h).1) (fun h => (fun h => (hx38 h).1) (by omega)) hc40
   refine wp_exit ?_
   refine th_exit ?_
   refine th_exit ?_
   refine ib_hit ?_
   refine k24 _ _ (wp_seq_k fun _ k45 => wp_region_lit ?_)
   refine L (r_mv Z rfl) Z rfl ?_; clear Z az; intro az Z
   have hk46 : 0 < (R).length := by omega
   obtain ⟨m47, hm48, ok49, hA50⟩ := Row.el KN0 h33 hk46
   have E51 : ∀ W, Only NoF w30 W → CA W (eA Aa 5 (0)) [.int .i64 (m47.h), .int .i64 (m47.n), .int .i64 (m47.d), .slice m47.A (m47.l.length) m47.c, strV (m47.s)] := Row.ce KN0 h33 hm48 rfl
   refine L (r_ia (k := 0) (size := 5) Tryz.underlying22 Tryz.sizeOf43 Z rfl rfl rfl hk46 hA50) Z rfl ?_; clear Z az; intro az Z
   refine L (r_fa (m' := 0) Tryz.underlying43 rfl Tryz.sizeOf3 rfl Z rfl rfl) Z rfl ?_; clear Z az; intro az Z
   refine L (r_ld Tryz.isAgg3 Z rfl ((E51 _ (Only.refl NoF w30)) 0 _ rfl)) Z rfl ?_; clear Z az; intro az Z
   refine L (r_bd (v := .agg #[.int .i64 (m47.h), .slice none (0) 0, .bool (false), .int .i64 (0)]) (build_House1 _) Z rfl) Z rfl ?_; clear Z az; intro az Z
   refine LAl (v := .agg #[.int .i64 (0), .slice none (0) 0, .bool (false), .int .i64 (0)]) Tryz.zeroValue69 Z rfl rfl ?_
   clear Z az; intro g52 w53 hg56 hl57 o54 B55 az Z
   refine LSt (cs' := [.int .i64 (m47.h), .slice none (0) 0, .bool (false), .int .i64 (0)]) Tryz.sizeOf69 Z rfl rfl rfl rfl rfl ⟨rfl, rfl, rfl, rfl, trivial⟩ B55 rfl rfl fun w58 s59 B60 => ?_
   refine k45 _ _ (wp_seq_k fun _ k61 => wp_region_lit ?_)
   refine L (r_mv Z rfl) Z rfl ?_; clear Z az; intro az Z
   refine L (r_mv Z rfl) Z rfl ?_; clear Z az; intro az Z
   have O62 : Only NoF w16 w58 := (o_sg (Only.trans' O32 o54) s59 (size_only O32) (oneF_ge hg56))
   have nt63 := NtS.top (m := n) (NtS.k hS O62) (by omega)
   have hl64 : (n : Int) = ((List.take n R).length : Int) := by rw [List.length_take, Nat.min_eq_left (by omega)]
   have hc65 : (List.take n R).length ≤ ca := Nat.le_trans (by rw [List.length_take]; omega) (SliceOf.cap_ (NtS.k hS O62).1)
   refine L (r_slh (m := (List.take n R).length) (size := 5) Tryz.underlying22 Tryz.sizeOf43 Z rfl rfl hl64 hc65) Z rfl ?_; clear Z az; intro az Z
   refine LCV (v := .tuple #[.slice (slA (slA Aa ca 0 5) ca 0 5) ((pastN (List.take n R)).length) ca, .bool ((adjN (List.take n R)))]) Z rfl rfl Tryz.call58 (past_v_ (NtS.nt nt63) (by rw [List.length_take]; omega)) rfl fun w66 o67 => ?_; clear Z az; intro az Z
   refine L (r_mv Z rfl) Z rfl ?_; clear Z az; intro az Z
   refine L (r_ex Z rfl rfl) Z rfl ?_; clear Z az; intro az Z
   refine L (r_ex Z rfl rfl) Z rfl ?_; clear Z az; intro az Z
   refine L (r_fa (m' := 1) Tryz.underlying69 rfl Tryz.sizeOf22 rfl Z rfl rfl) Z rfl ?_; clear Z az; intro az Z
   have B68 := (Blk.k B60 o67)
   refine LSt (cs' := [.int .i64 (m47.h), .slice (slA (slA Aa ca 0 5) ca 0 5) ((pastN (List.take n R)).length) ca, .bool (false), .int .i64 (0)]) Tryz.sizeOf22 Z rfl rfl rfl rfl rfl ⟨rfl, trivial⟩ B68 rfl rfl fun w69 s70 B71 => ?_
   refine L (r_fa (m' := 2) Tryz.underlying69 rfl Tryz.sizeOf4 rfl Z rfl rfl) Z rfl ?_; clear Z az; intro az Z
   refine LSt (cs' := [.int .i64 (m47.h), .slice (slA (slA Aa ca 0 5) ca 0 5) ((pastN (List.take n R)).length) ca, .bool ((adjN (List.take n R))), .int .i64 (0)]) Tryz.sizeOf4 Z rfl rfl rfl rfl rfl ⟨rfl, trivial⟩ B71 rfl rfl fun w72 s73 B74 => ?_
   refine k61 _ _ ?_
   refine reg_p (ownF (.slice Ah (H.length) ch)) 1 [2, 3] (.rd 0 (.rd 1 (.rd 4 (.rd 5 (.rd 6 (.ex 2 (.ex 3 (.rd 7 (.rd 8 .nil))))))))) (by kernel_rfl) (by kernel_rfl) (fun _ _ _ _ _ h => h) fun w75 o76 => ?_
   have B77 := (Blk.k B74 o76)
   refine Pl.MSP (b := true) (by kernel_rfl) (fun W oW => r_mv Z rfl) Z rfl rfl ?_; clear Z az; intro az Z
   refine Pl.MSP (b := true) (by kernel_rfl) (fun W oW => r_ldA Tryz.isAgg69 Tryz.sizeOf69 Z rfl (Blk.ca (Blk.k B77 oW)) rfl) Z rfl rfl ?_; clear Z az; intro az Z
   refine Pl.MSP (b := false) (by kernel_rfl) (fun W oW => r_mv Z rfl) Z rfl rfl ?_; clear Z az; intro az Z
   refine Pl.MSP (b := false) (by kernel_rfl) (fun W oW => r_mv Z rfl) Z rfl rfl ?_; clear Z az; intro az Z
   have O78 : Only NoF w16 w75 := (Only.trans' (o_sg (o_sg (Only.trans' O62 o67) s70 (size_only O32) (oneF_ge hg56)) s73 (size_only O32) (oneF_ge hg56)) o76)
   refine Pl.MSP (b := false) (by kernel_rfl) (fun W oW => r_slD (lo := n) (m := (List.drop n R).length) (size := 5) Tryz.underlying22 Tryz.sizeOf43 Z rfl rfl rfl (by omega) List.length_drop.symm) Z rfl rfl ?_; clear Z az; intro az Z
   obtain ⟨A79, w80, hw, hA, r81, o82⟩ := Row.made (w := w75) KH0 (e := 69) ([(⟨m47.h, (slA (slA Aa ca 0 5) ca 0 5), pastN (List.take n R), ca, (adjN (List.take n R)), 0⟩ : HR)] : List HR) (by simp only [List.length_cons, List.length_nil]; unfold maxLen; omega)
   refine Pl.MD (r_bs (z := .agg #[.int .i64 (0), .slice none (0) 0, .bool (false), .int .i64 (0)]) (size := 4) (vs := [(0, .agg #[.int .i64 (m47.h), .slice (slA (slA Aa ca 0 5) ca 0 5) ((pastN (List.take n R)).length) ca, .bool ((adjN (List.take n R))), .int .i64 (0)])]) (cs := List.flatMap KH0.cells [(⟨m47.h, (slA (slA Aa ca 0 5) ca 0 5), pastN (List.take n R), ca, (adjN (List.take n R)), 0⟩ : HR)]) Tryz.underlying66 Tryz.sizeOf69 Tryz.zeroValue69 rfl (Fr.evalps Z rfl) (by kernel_rfl)) Z rfl rfl ?_ ?_
   · rw [← hw]; exact ⟨fun _ => o82, (Only.trans (Only.refl (ownF (.slice Ah (H.length) ch)) w75) o82 (fun _ h => h.elim))⟩
   rw [← hw, ← hA]; clear Z az; intro az Z
   clear hw hA
   have ok83 : ∀ zq ∈ ([(⟨m47.h, (slA (slA Aa ca 0 5) ca 0 5), pastN (List.take n R), ca, (adjN (List.take n R)), 0⟩ : HR)] : List HR), KH0.ok zq := by intro zq hx; simp only [List.mem_cons, List.not_mem_nil, or_false] at hx; rcases hx with rfl <;> first | exact trivial
   have r84 := (ow_k (ow_k (ow_only (ow_only (ow_k (ow_only (ow_k (ow_k (ow_k rO o26) o31) o54) s59 (fun k hk => lt_F (oneF_ge hg56) (size_only O32) k (ownF_lt rO k hk))) o67) s70 (fun k hk => lt_F (oneF_ge hg56) (size_only O32) k (ownF_lt rO k hk))) s73 (fun k hk => lt_F (oneF_ge hg56) (size_only O32) k (ownF_lt rO k hk))) o76) o82)
   have h85 := SliceOf.pl (Row.own KH0 r81 ok83)
   have hb93 : (List.length (H) + List.length ([(⟨m47.h, (slA (slA Aa ca 0 5) ca 0 5), pastN (List.take n R), ca, (adjN (List.take n R)), 0⟩ : HR)])) * 48 ≤ 140737488355328 := by (simp only [List.length_append, List.length_cons, List.length_nil]; omega)
   have O94 : Only NoF w3 w30 := (Only.trans' (Only.trans' o17 o26) o31)
   have O95 : Only NoF w3 w80 := (Only.trans' (Only.trans' (o_sg (o_sg (Only.trans' (o_sg (Only.trans' (Only.trans' (Only.trans' o17 o26) o31) o54) s59 (size_only O94) (oneF_ge hg56)) o67) s70 (size_only O94) (oneF_ge hg56)) s73 (size_only O94) (oneF_ge hg56)) o76) o82)
   obtain ⟨A86, c87, w88, hr89, r90, o91, al92⟩ := Row.app (P := Tryz.prog) (l := H) (l2 := [(⟨m47.h, (slA (slA Aa ca 0 5) ca 0 5), pastN (List.take n R), ca, (adjN (List.take n R)), 0⟩ : HR)]) KH0 elemHouse r84 h85 hb93 (by unfold maxLen; omega) (size_only O95)
   refine Pl.MD (r_app hr89 Z rfl rfl) Z rfl rfl ?_ ?_
   · exact ⟨fun h => absurd h (by decide), (Only.trans (Only.trans (Only.refl (ownF (.slice Ah (H.length) ch)) w75) o82 (fun _ h => h.elim)) o91 (fun _ h => .inl h))⟩
   clear Z az; intro az Z
   have ok96 : ∀ zq ∈ (H ++ [(⟨m47.h, (slA (slA Aa ca 0 5) ca 0 5), pastN (List.take n R), ca, (adjN (List.take n R)), 0⟩ : HR)]), KH0.ok zq := (fun x hx => (List.mem_append.1 hx).elim ((fun _ _ => trivial) x) ((Row.oks KH0 h85) x))
   have h97 := Row.own KH0 r90 ok96
   refine Pl.MSP (b := false) (by kernel_rfl) (fun W oW => r_as Z rfl) Z rfl rfl ?_; clear Z az; intro az Z
   refine Pl.MSP (b := false) (by kernel_rfl) (fun W oW => r_as Z rfl) Z rfl rfl ?_; clear Z az; intro az Z
   refine wpPl_nil ?_
   have O98 : Only NoF w16 w80 := (Only.trans' O78 o82)
   have hT99 := NtS.only (NtS.tail (m := n) (NtS.k hS O98) hn.2) o91 (fun k hk hF => absurd hk.2 (Nat.not_lt.2 (Nat.le_trans (Nat.le_refl _) (ownF_ge r84 k hF))))
   have hT100 := OkHs.only (OkHs.app (OkHs.k hOk O98) (x := (⟨m47.h, (slA (slA Aa ca 0 5) ca 0 5), pastN (List.take n R), ca, (adjN (List.take n R)), 0⟩ : HR)) (NtS.top (m := dwnN (List.take n R) (cntN (List.take n R))) (NtS.top (m := n) (NtS.k hS O98) hn.2) (past_le _))) o91 (fun k hk hF => absurd hk.2 (Nat.not_lt.2 (Nat.le_trans (Nat.le_refl _) (ownF_ge r84 k hF))))
   rw [hou_stepM hm48 hrl] at hH
   have hdl : (List.drop n R).length = R.length - n := List.length_drop
   have O101 : Only NoF w3 w88 := (o_sg O95 o91 (Nat.le_refl _) (ownF_ge rO))
   exact ⟨_, (by omega), (List.drop n R), (slA Aa ca n 5), (ca - n), _, A86, c87, rfl, Z.cut ⟨rfl, rfl, trivial⟩, (by rw [List.map_append, List.append_assoc]; exact hH), (by simp only [List.length_append, List.length_cons, List.length_nil, List.length_drop]; omega), O101, r90, hT99, hT100⟩
 ·
  have p102 := of_decide_eq_false hc21
  refine wp_exit ?_
  refine th_exit ?_
  refine th_exit ?_
  refine ib_hit ?_
  refine k15 _ _ (wp_seq_k fun _ k103 => wp_region_lit ?_)
  refine L (r_mv Z rfl) Z rfl ?_; clear Z az; intro az Z
  refine L (r_as Z rfl) Z rfl ?_; clear Z az; intro az Z
  refine k103 _ _ ?_
  refine wp_ret ?_
  show bodyPost _ _ _ .ret _ _
  refine ret_of (vs := [.slice Ah (H.length) ch]) Z Tryz.results36 ⟨rfl, trivial⟩ ?_
  have hR : R = [] := List.eq_nil_of_length_eq_zero (by omega)
  subst hR; rw [show housesF _ _ = [] from rfl, List.append_nil, hL8] at hH
  have O104 : Only NoF w w16 := (Only.trans' o4 o17)
  exact ⟨_, _, H, rfl, hH, (ow_low rO (size_only o4)), OkHs.sup (OkHs.k hOk (Only.refl NoF w16)) (fun k hk => ⟨Nat.le_trans (Nat.le_refl _) hk.1, fun hF => absurd hk.2 (Nat.not_lt.2 (Nat.le_trans (Nat.le_refl _) (ownF_ge rO k hF)))⟩), O104⟩
end
end Go.Proofs.YtdcbjedkddgfkaaGreatDoor
