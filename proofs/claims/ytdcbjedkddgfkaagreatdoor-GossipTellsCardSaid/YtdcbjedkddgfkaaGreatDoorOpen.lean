/-
  A law's arguments opened to lists ('SliceOf'), and a law's last step where nothing that was there has turned. No condition: plain lemmas over any program.
-/
import Derived.Test.YtdcbjedkddgfkaaGreatDoorMem
import Derived.ProofKit
import Derived.OpenShut
import Derived.Deep.Slices
import Derived.Deep.Fields
import Derived.ChangeSame
import Derived.KernelRfl
namespace Go.Proofs.YtdcbjedkddgfkaaGreatDoor
set_option linter.unusedVariables false
set_option linter.unusedSimpArgs false
set_option linter.unusedSectionVars false
open Go.ChangeShapes Go.WideShapes Go.ChangeAt Go.RowKit Go.Deep
section
variable {H : Type} {enc : TypeId × Value → H} {P : Program} {w : World} {base : Nat} {spare : Nat → Bool} {held : Bool}
def oldB (w : World) : Nat → Prop := fun k => k < w.heap.size
theorem open_sliceOf {α : Type} {t e : TypeId} {size fuel : Nat} {cs : List Value} {x : DataW H × List MemPlace} (ht : P.underlying t = some (.slice e)) (hC : P.cellsOf e = size) (hpos : 0 < size) (R : World → List Value → α → Prop)
 (hR : ∀ n cs y, cs.length = size → DataW.trod enc P w base spare held n e cs = some y → ∃ a, R w cs a) (h : DataW.trod enc P w base spare held fuel t cs = some x) : ∃ v l, cs = [v] ∧ SliceOf (oldB w) size R w v l := by
 rcases open_slice ht h with ⟨rfl, _⟩ | ⟨a, len, cap, m, n, D, Pl, rfl, _, hlc, hm, hmm, _, hi⟩
 · exact ⟨_, [], rfl, SliceOf.nil_ R size w⟩
 · have hle : len ≤ m := by rw [hmm]; split <;> omega
   have key : ∀ i, i < len → ∃ a0 : α, ∃ cs', cs'.length = size ∧ R w cs' a0 ∧ ∀ j, j < size → w.cell? (a.add (i * size + j)) = cs'[j]? := by
    intro i hil
    obtain ⟨cs', hc, ht'⟩ := hi i (by omega)
    rw [hC] at hc
    obtain ⟨_, hcl, hat⟩ := World.cells?_some hc
    obtain ⟨a0, ha0⟩ := hR n cs' _ hcl ht'
    exact ⟨a0, cs', hcl, ha0, fun j hj => by rw [← add_of_add]; exact hat j hj⟩
   rcases Nat.eq_zero_or_pos len with h0 | h0
   · subst h0
     refine ⟨_, [], rfl, some a, cap, [], rfl, Nat.zero_le _, hm, ⟨by simp, fun h => absurd h (Nat.lt_irrefl 0)⟩, fun i x h => by simp at h⟩
   · have ha : Nonempty α := ⟨Classical.choose (key 0 h0)⟩
     have : Inhabited α := ⟨Classical.choice ha⟩
     obtain ⟨f, hf⟩ := choose_lt key
     have hcell : ∀ j, j < len * size → ∃ u, w.cell? (a.add j) = some u := by
      intro j hj
      obtain ⟨cs', hcl, _, hat⟩ := hf (j / size) (Nat.div_lt_of_lt_mul (by rw [Nat.mul_comm]; exact hj))
      have hlt := Nat.mod_lt j hpos
      have e1 : j / size * size + j % size = j := Nat.div_add_mod' j size
      have := hat (j % size) hlt
      rw [e1] at this
      exact ⟨cs'[j % size]'(by omega), by rw [this, List.getElem?_eq_getElem (by omega)]⟩
     have hbl : a.block < w.heap.size := by
      obtain ⟨u, hu⟩ := hcell 0 (Nat.mul_pos h0 hpos)
      have := World.block_lt_of_cell? _ _ hu
      rwa [block_of_add] at this
     have hll : ((List.range len).map f).length = len := by simp
     refine ⟨_, (List.range len).map f, rfl, some a, cap, (List.range (len * size)).map fun j => (w.cell? (a.add j)).getD undef, by rw [hll], by rw [hll]; exact hlc, hm, ?_, ?_⟩
     · rw [hll]
       refine ⟨by simp, fun _ => ⟨a, rfl, hbl, hbl, fun j u hu => ?_⟩⟩
       have hj : j < len * size := by
        rcases Nat.lt_or_ge j (len * size) with h | h
        · exact h
        · rw [List.getElem?_eq_none (by simpa using h)] at hu
          cases hu
       rw [List.getElem?_map, List.getElem?_range hj] at hu
       obtain ⟨u', hu'⟩ := hcell j hj
       simp only [Option.map_some, hu', Option.getD_some, Option.some.injEq] at hu
       rw [hu', hu]
     · intro i x hx
       have hil : i < len := by
        rcases Nat.lt_or_ge i len with h | h
        · exact h
        · rw [List.getElem?_eq_none (by simpa using h)] at hx
          cases hx
       rw [List.getElem?_map, List.getElem?_range hil] at hx
       simp only [Option.map_some, Option.some.injEq] at hx
       subst hx
       obtain ⟨cs', hcl, hr, hat⟩ := hf i hil
       have hmul : i * size + size ≤ len * size := by rw [← Nat.succ_mul]; exact Nat.mul_le_mul_right _ hil
       have e : (((List.range (len * size)).map fun j => (w.cell? (a.add j)).getD undef).drop (i * size)).take size = cs' := by
        apply List.ext_getElem?
        intro j
        rw [List.getElem?_take]
        split
        · rename_i hj
          rw [List.getElem?_drop, List.getElem?_map, List.getElem?_range (by omega)]
          have := hat j hj
          simp only [Option.map_some]
          rw [this, List.getElem?_eq_getElem (by omega)]
          rfl
        · rw [List.getElem?_eq_none (by omega)]
       rw [e]
       exact hr
theorem wf_I64 {n : Int} (h : (Lit.int .i64 n).wf = true) : I64 n := by
 have : -9223372036854775808 ≤ n ∧ n ≤ 9223372036854775807 := by simpa [Lit.wf, IntKind.min, IntKind.max, IntKind.signed, IntKind.bits] using h
 exact this
/-- a struct of one-cell fields, field by field -/
theorem trod_fields {t : TypeId} {fs : Array Field} {fuel : Nat} {cs : List Value} {x : DataW H × List MemPlace} (hs : P.underlying t = some (.struct fs)) (hone : oneCellFields P fs = true)
 (h : DataW.trod enc P w base spare held fuel t cs = some x) (hlen : cs.length = fs.size) : ∃ n, ∀ (j : Nat) (f : Field), fs[j]? = some f → ∃ v y, cs[j]? = some v ∧ DataW.trod enc P w base spare held n f.type [v] = some y := by
 obtain ⟨ys, n', _, _, _, hyl, hf⟩ := DataW.trod_struct hs h
 refine ⟨n', fun j f hj => ?_⟩
 obtain ⟨ho, hk⟩ := hone_of hone j f hj
 have hjl : j < fs.size := (Array.getElem?_eq_some_iff.1 hj).1
 have h1 := hf j f hj
 rw [ho, hk] at h1
 have hone' : (cs.drop j).take 1 = [cs[j]'(by omega)] := by
  rw [List.drop_eq_getElem_cons (by omega)]
  rfl
 rw [hone'] at h1
 exact ⟨_, _, List.getElem?_eq_getElem (by omega), h1.trans (List.getElem?_eq_getElem (by omega))⟩
/-! ### The last step -/
theorem trodAll_below (hl : laidOutB P = true) {W W' : World} (hb : Below W.heap.size W W') : ∀ {ts : List TypeId} {vs : List Value} {ds : List (DataW H)} {ps : List MemPlace}, (∀ t ∈ ts, P.readableRec t = true ∧ t < P.types.size) →
 DataW.TrodAll enc P W 0 (fun _ => true) true ts vs ds ps → DataW.TrodAll enc P W' 0 (fun b => decide (b < W.heap.size)) true ts vs ds ps
 | [], [], [], _, _, h => h
 | t :: _, _ :: _, _ :: _, _, hT, ⟨p, q, h1, h2, e⟩ => ⟨p, q, Below.trod hl (hT t (List.mem_cons.2 (Or.inl rfl))).1 (hT t (List.mem_cons.2 (Or.inl rfl))).2 h1 hb (by obtain ⟨m, hm⟩ := h1; exact DataW.trod_lt m _ _ _ hm), trodAll_below hl hb (fun t ht => hT t (List.mem_cons.2 (Or.inr ht))) h2, e⟩
theorem law_post {f : Func} {s : ChangeSpec} {W W' : World} {args : Array Value} {ds gs : List (DataW H)} {before : List MemPlace} {T : TypeId}
 (hl : laidOutB P = true) (hts : ∀ t ∈ f.params.toList, P.readableRec t = true ∧ t < P.types.size) (hv : s.vars = []) (hr : f.resultTypes = #[T]) (hT : P.underlying T = some .bool)
 (hW : DataW.Whole enc P f.params.toList s.vars false W args.toList ds gs before) (hfn : s.fn H (ds ++ gs) = { results := [.lit (.bool true)], args := ds }) (hb : Below W.heap.size W W') :
 s.post enc P f false true false false W args (.bool true) W' := by
 have hW' := hW
 obtain ⟨p, q, hA, hV, rfl, _, _⟩ := hW
 rw [hv] at hV
 obtain ⟨rfl, rfl⟩ := trodVars_none hV
 rw [List.append_nil] at hW'
 refine ⟨ds, [], p, [], p, [], hW', ?_, ?_, ?_, hb.frame _, fun h => by cases h⟩
 · rw [hfn, hr]
   exact trodAll_mk1 (shut_bool hT _)
 · rw [hfn]
   exact trodAll_below hl hb hts hA
 · rw [hfn, hv]
   rfl
theorem only_below {w w' : World} (h : Only NoF w w') : Below w.heap.size w w' := h.below (Nat.le_refl _) fun _ h => h.elim
end
end Go.Proofs.YtdcbjedkddgfkaaGreatDoor
