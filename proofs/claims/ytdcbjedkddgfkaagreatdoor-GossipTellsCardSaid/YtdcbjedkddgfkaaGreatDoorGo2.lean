/-
  Gossip: items are sorted by the library. Condition: the listed variables; right notes.
-/
import Derived.Test.YtdcbjedkddgfkaaGreatDoorGo1
import Derived.Test.YtdcbjedkddgfkaaGreatDoorGSl
import Derived.Test.YtdcbjedkddgfkaaGreatDoorMono
import Derived.Shelf.SlSortCmp.NoneTotal
namespace Go.Proofs.YtdcbjedkddgfkaaGreatDoor
set_option linter.unusedVariables false
set_option linter.unusedSimpArgs false
set_option linter.unusedSectionVars false
open Go.RowKit Go.Sort
section
variable {w w' : World} {F : Nat → Prop}
/-- a world in which nothing old has turned: blocks behind, draws on -/
theorem grow_of (o : Only NoF w w') (hd : w.drawn ≤ w'.drawn) : ∃ q os', w' = grow (w.drewN q) os' := by
 refine ⟨w'.drawn - w.drawn, w'.heap.extract w.heap.size w'.heap.size, ?_⟩
 have hh : w'.heap = w.heap ++ w'.heap.extract w.heap.size w'.heap.size := by
  apply Array.ext_getElem?
  intro k
  by_cases hk : k < w.heap.size
  · rw [Array.getElem?_append_left hk]
    exact o.block k hk (fun h => h)
  · rw [Array.getElem?_append_right (by omega), Array.getElem?_extract]
    have := o.size
    split
    · congr 1; omega
    · exact Array.getElem?_eq_none (by omega)
 obtain ⟨h1, t1, d1, s1, p1⟩ := w
 obtain ⟨h2, t2, d2, s2, p2⟩ := w'
 have e1 : t2 = t1 := o.tape
 have e2 : s2 = s1 := o.os
 have e3 : p2 = p1 := o.output
 subst e1 e2 e3
 show (⟨h2, t2, d2, s2, p2⟩ : World) = ⟨h1 ++ h2.extract h1.size h2.size, t2, d1 + (d2 - d1), s2, p2⟩
 rw [← (hh : h2 = h1 ++ h2.extract h1.size h2.size), show d1 + (d2 - d1) = d2 by have : d1 ≤ d2 := hd; omega]
variable {α : Type} [Inhabited α] {enc : α → List Value} {k blk n : Nat} {d : Array α} {os : Array Obj}
theorem sw_only : Only (oneF blk) w (sortWorldK enc k w blk 0 n d os) := by
 refine ⟨rfl, rfl, rfl, size_sortWorldK_c enc k w blk 0 n d os, fun i hi hn => ?_⟩
 show ((w.heap.modify blk _) ++ os)[i]? = _
 rw [Array.getElem?_append_left (by rw [Array.size_modify]; exact hi), Array.getElem?_modify, if_neg (fun e => hn e.symm)]
theorem sw_cells {c : Array Value} {e : TypeId} {fr : Nat × Nat} (hb : blk < w.heap.size) (h : w.heap[blk]? = some (.cells c e fr)) : (sortWorldK enc k w blk 0 n d os).heap[blk]? = some (.cells (putCells id 0 (flatK enc k d) c) e fr) := by
 show ((w.heap.modify blk _) ++ os)[blk]? = _
 rw [Array.getElem?_append_left (by rw [Array.size_modify]; exact hb), Array.getElem?_modify, if_pos rfl, h]; rfl
end
/-! ### rows as the library holds them -/
section
variable {α : Type} [Inhabited α] (enc : α → List Value) (k : Nat)
theorem fk_list (hk : ∀ x, (enc x).length = k) (d : Array α) : (flatK enc k d).toList = d.toList.flatMap enc := by
 apply List.ext_getElem?
 intro t
 have hlen : (d.toList.flatMap enc).length = d.size * k := by
  have key : ∀ l : List α, (l.flatMap enc).length = l.length * k := by
   intro l
   induction l with
   | nil => simp
   | cons a l ih => rw [List.flatMap_cons, List.length_append, ih, hk, List.length_cons, Nat.succ_mul]; omega
  rw [key, Array.length_toList]
 by_cases ht : t < d.size * k
 · have h1 : (flatK enc k d).toList[t]? = some ((flatK enc k d)[t]!) := by
    rw [Array.getElem?_toList, Array.getElem?_eq_getElem (by rw [size_flatK]; exact ht), getElem!_pos (flatK enc k d) t (by rw [size_flatK]; exact ht)]
   rw [h1, get_flatK enc k d t ht]
   have hk0 : 0 < k := by rcases Nat.eq_zero_or_pos k with h | h; · subst h; omega
                          · exact h
   have hq : t / k < d.size := Nat.div_lt_of_lt_mul (by rw [Nat.mul_comm]; exact ht)
   have hr : t % k < k := Nat.mod_lt _ hk0
   have key : ∀ (l : List α) (q r : Nat) (hq : q < l.length), r < k → (l.flatMap enc)[q * k + r]? = (enc l[q])[r]? := by
    intro l
    induction l with
    | nil => intro q r hq; simp at hq
    | cons a l ih =>
     intro q r hq hr
     rw [List.flatMap_cons]
     cases q with
     | zero =>
      rw [Nat.zero_mul, Nat.zero_add, List.getElem?_append_left (by rw [hk]; exact hr)]; rfl
     | succ q =>
      rw [List.getElem?_append_right (by rw [hk, Nat.succ_mul]; omega), hk, show (q + 1) * k + r - k = q * k + r by rw [Nat.succ_mul]; omega]
      exact ih q r (by simpa using hq) hr
   have := key d.toList (t / k) (t % k) (by simpa using hq) hr
   rw [show t / k * k + t % k = t by rw [Nat.mul_comm]; exact Nat.div_add_mod t k] at this
   rw [this, getElem!_pos d (t / k) hq, getElem!_pos (enc d[t / k]) (t % k) (by rw [hk]; exact hr), List.getElem?_eq_getElem (by rw [hk]; exact hr)]
   simp
 · rw [List.getElem?_eq_none (by rw [Array.length_toList, size_flatK]; omega), List.getElem?_eq_none (by omega)]
end
theorem put_take (f c : Array Value) (h : f.size ≤ c.size) : (putCells id 0 f c).size = c.size ∧ (putCells id 0 f c).toList.take f.size = f.toList := by
 refine ⟨by simp [putCells], ?_⟩
 apply List.ext_getElem (by simp [putCells]; omega)
 intro i h1 h2
 rw [List.getElem_take]
 have hi : i < f.size := by simpa using h2
 simp only [putCells, Array.getElem_toList, Array.getElem_mapIdx, id]
 rw [if_pos ⟨Nat.zero_le _, by omega⟩, getElem!_pos f (i - 0) (by omega)]
 rfl
/-! ### the sort -/
abbrev SrtE (w : World) (v : Value) : Type := { m : NM // right m = true ∧ okN (fun k => ¬ ownF v k) w m }
instance srtInh (w : World) (v : Value) : Inhabited (SrtE w v) := ⟨⟨⟨0, 0, 0, none, [], 0, []⟩, by decide, by show I64 0; unfold I64; omega, by show I64 0; unfold I64; omega, by show I64 0; unfold I64; omega, SliceOf.nil_ _ _ _, by unfold maxLen; decide⟩⟩
abbrev encSrt (w : World) (v : Value) (x : SrtE w v) : List Value := KN0.cells x.1
theorem swoN {w : World} {v : Value} : SWO (Go.Proofs.ltOf fun (x y : SrtE w v) => cmpN x.1 y.1) where
 irrefl x := by unfold Go.Proofs.ltOf; exact decide_eq_false (by show ¬ cmpN x.1 x.1 < 0; rw [cmpN_irrefl]; omega)
 trans x y z h1 h2 := by unfold Go.Proofs.ltOf at *; exact decide_eq_true (cmpN_trans (of_decide_eq_true h1) (of_decide_eq_true h2))
 ntrans x y z h1 h2 := by
  unfold Go.Proofs.ltOf at *
  have a1 := of_decide_eq_false h1
  have a2 := of_decide_eq_false h2
  refine decide_eq_false fun h => ?_
  change ¬ cmpN x.1 y.1 < 0 at a1
  change ¬ cmpN y.1 z.1 < 0 at a2
  change cmpN x.1 z.1 < 0 at h
  have e1 := cmpN_anti x.1 y.1
  have e2 := cmpN_anti y.1 z.1
  rcases Int.lt_trichotomy (cmpN y.1 z.1) 0 with h3 | h3 | h3
  · exact a2 h3
  · have h4 := cmpN_zero.1 h3
    have : cmpN x.1 y.1 = cmpN x.1 z.1 := by
     unfold cmpN; rw [h4.1, h4.2.1, h4.2.2]
    omega
  · exact a1 (cmpN_trans h (by omega))
theorem okN.pair {S : Nat → Prop} {w w' : World} {m : NM} {F : Nat → Prop} (h : okN S w m) (o : Only F w w') (hS : ∀ k, S k → ¬ F k) : okN AllB w' m := (h.only o hS).pl
theorem cmp_lays {w : World} (hG : Gr w) {blk n c : Nat} (h6 : 6 ≤ blk) (size : Nat) :
 CmpLays Tryz.prog 54 #[] (encSrt w (.slice (some ⟨blk, 0, none⟩) n c)) 5 (fun x y => cmpN x.1 y.1) blk 0 size w := by
 intro m os dk _ x y
 have o : Only (oneF blk) w (sortWorldK (encSrt w (.slice (some ⟨blk, 0, none⟩) n c)) 5 w blk 0 m dk os) := sw_only
 have hS : ∀ k, (fun k => ¬ ownF (.slice (some ⟨blk, 0, none⟩) n c) k) k → ¬ oneF blk k := fun k hk e => hk (by unfold oneF at e; subst e; rfl)
 have hG' := Gr.only hG o (fun k hk => by unfold oneF at hk; omega)
 refine (calls_up (cmp_v hG' x.2.1 y.2.1 (x.2.2.pair o hS) (y.2.2.pair o hS))).mono ?_
 rintro e w' ⟨⟨rfl, o2⟩, hd⟩
 exact ⟨rfl, grow_of o2 (hd ⟨_, rfl⟩)⟩
theorem att_val {α : Type} {p : α → Prop} (L : List α) (h : ∀ m ∈ L, p m) : ∃ d : Array { m : α // p m }, d.toList.map Subtype.val = L := by
 refine ⟨(L.attach.map fun x => (⟨x.1, h x.1 x.2⟩ : { m : α // p m })).toArray, ?_⟩
 rw [List.toList_toArray, List.map_map]
 exact List.attach_map_subtype_val L
def SortTo (v : Value) (base : Nat) (L : List NM) (w : World) (e : Ending) (w' : World) : Prop := ∃ L' : List NM, e = .returned (.tuple #[]) ∧ L'.Perm L ∧ L'.Pairwise (fun a b => cmpN a b ≤ 0) ∧ w'.ownsRow base 95 5 v L.length (L'.flatMap KN0.cells) ∧ Only (ownF v) w w'
theorem sort_v {w : World} (hG : Gr w) {base : Nat} (h6 : 6 ≤ base) {v : Value} {L : List NM} (rO : w.ownsRow base 95 5 v L.length (L.flatMap KN0.cells)) (hok : OkNs (fun k => ¬ ownF v k) w L) (hr : ∀ m ∈ L, right m = true) (hl : L.length ≤ 1000000) :
 Calls Tryz.prog 88 [v, .func (.func 54) #[] #[]].toArray w (SortTo v base L w) := by
 have eg : ∀ args w, (callFunc 54 args).run Tryz.prog w = .ok (.enter 54 args) w := enters_of Tryz.func54 (by kernel_rfl) rfl
 obtain ⟨hlen, ⟨rfl, h0⟩ | ⟨g, cap, cur, rfl, hb, hh, hnc, hcm, hcs, ht⟩⟩ := rO
 · have : L = [] := List.eq_nil_of_length_eq_zero h0
   subst this
   have hn := AnyF.slices_SortFunc_none Tryz.sortN none 0 (.func (.func 54) #[] #[]) w
   change Calls Tryz.prog 88 _ _ _ at hn
   exact hn.mono fun e w' ⟨he, hw⟩ => ⟨[], he, List.Perm.refl _, List.Pairwise.nil, by rw [hw]; exact ⟨hlen, .inl ⟨rfl, rfl⟩⟩, by rw [hw]; exact Only.refl _ _⟩
 · have hgl : g < w.heap.size := by
    rcases Nat.lt_or_ge g w.heap.size with h | h
    · exact h
    · rw [Array.getElem?_eq_none h] at hh; cases hh
   have hmem : ∀ m ∈ L, right m = true ∧ okN (fun k => ¬ ownF (.slice (some ⟨g, 0, none⟩) L.length cap) k) w m := fun m hm => ⟨hr m hm, hok m hm⟩
   obtain ⟨d, hd⟩ := att_val (p := fun m => right m = true ∧ okN (fun k => ¬ ownF (.slice (some ⟨g, 0, none⟩) L.length cap) k) w m) L hmem
   have hds : d.size = L.length := by have := congrArg List.length hd; rw [List.length_map, Array.length_toList] at this; exact this
   have hcell : ∀ (q : List (SrtE w (.slice (some ⟨g, 0, none⟩) L.length cap))), q.flatMap (encSrt w (.slice (some ⟨g, 0, none⟩) L.length cap)) = (q.map Subtype.val).flatMap KN0.cells := fun q => by rw [List.flatMap_map]
   have hfl : (flatK (encSrt w (.slice (some ⟨g, 0, none⟩) L.length cap)) 5 d).toList = L.flatMap KN0.cells := by
    rw [fk_list _ 5 (fun _ => rfl), hcell, hd]
   have hfs : (flatK (encSrt w (.slice (some ⟨g, 0, none⟩) L.length cap)) 5 d).size = L.length * 5 := by rw [size_flatK, hds]
   have hsz : L.length * 5 ≤ cur.size := by rw [hcs]; exact Nat.mul_le_mul_right 5 hnc
   have hH : HoldsK (encSrt w (.slice (some ⟨g, 0, none⟩) L.length cap)) 5 w g 0 d := by
    intro j hj
    rw [hfs] at hj
    have e1 : cur[j]? = some ((flatK (encSrt w (.slice (some ⟨g, 0, none⟩) L.length cap)) 5 d)[j]!) := by
     have h1 : (cur.toList.take (L.length * 5))[j]? = cur[j]? := by rw [List.getElem?_take, if_pos hj]; simp
     rw [← h1, ht, ← hfl, Array.getElem?_toList, getElem!_pos _ j (by rw [hfs]; exact hj), Array.getElem?_eq_getElem (by rw [hfs]; exact hj)]
    constructor
    · show w.cell? ⟨g, 0 + j, none⟩ = _
      unfold World.cell?
      rw [hh]
      simp only [Nat.zero_add, Option.isSome_none, Bool.false_eq_true, if_false]
      exact e1
    · unfold World.frozen?
      rw [hh]; simp
   have hcon := AnyQ.slices_SortFunc Tryz.sortN 5 Tryz.isAgg95 Tryz.sizeOf95 (encSrt w (.slice (some ⟨g, 0, none⟩) L.length cap)) (fun _ => rfl) (fun x u hu => KN0.one x.1 u hu) (fun x y => cmpN x.1 y.1) swoN 54 #[] g 0 cap d w eg (cmp_lays hG (by omega) d.size) hH hgl (by omega)
   change Calls Tryz.prog 88 _ _ _ at hcon
   rw [hds] at hcon
   refine hcon.mono ?_
   rintro e w' ⟨rfl, d', n, os, hp, hs, rfl⟩
   have hs' : d'.size = L.length := by have := hp.1; omega
   have hF : (oneF g) = ownF (.slice (some ⟨g, 0, none⟩) L.length cap) := by
    funext x
    unfold oneF ownF Value.ownBlock
    simp [eq_comm]
   have hperm : d'.toList.Perm d.toList := by
    have := hp.2.2
    rwa [Array.extract_eq_self_of_le (show d'.size ≤ L.length by omega), Array.extract_eq_self_of_le (show d.size ≤ L.length by omega)] at this
   have hL' : (flatK (encSrt w (.slice (some ⟨g, 0, none⟩) L.length cap)) 5 d').toList = (d'.toList.map Subtype.val).flatMap KN0.cells := by
    rw [fk_list _ 5 (fun _ => rfl), hcell]
   have hfs' : (flatK (encSrt w (.slice (some ⟨g, 0, none⟩) L.length cap)) 5 d').size = L.length * 5 := by rw [size_flatK, hs']
   obtain ⟨p1, p2⟩ := put_take (flatK (encSrt w (.slice (some ⟨g, 0, none⟩) L.length cap)) 5 d') cur (by rw [hfs']; exact hsz)
   refine ⟨d'.toList.map Subtype.val, rfl, ?_, ?_, ⟨?_, .inr ⟨g, cap, _, rfl, hb, sw_cells hgl hh, hnc, hcm, by rw [p1]; exact hcs, ?_⟩⟩, by rw [← hF]; exact sw_only⟩
   · have := hperm.map Subtype.val
     rwa [hd] at this
   · rw [List.pairwise_map]
     rw [List.pairwise_iff_getElem]
     intro i j hi hj hij
     have h1 := hs i j (Nat.zero_le _) hij (by rw [← hs']; simpa using hj)
     have h2 := of_decide_eq_false h1
     have e1 : d'[i]! = d'.toList[i] := by rw [getElem!_pos d' i (by simpa using hi)]; simp
     have e2 : d'[j]! = d'.toList[j] := by rw [getElem!_pos d' j (by simpa using hj)]; simp
     rw [e1, e2] at h2
     have := cmpN_anti d'.toList[i].1 d'.toList[j].1
     change ¬ cmpN d'.toList[j].1 d'.toList[i].1 < 0 at h2
     omega
   · rw [← hL', Array.length_toList, hfs']
   · rw [← hL', ← p2, hfs']
end Go.Proofs.YtdcbjedkddgfkaaGreatDoor
