/-
  Steps that make or write memory, regions that draw their order, loops with a measure of their own, returns. No condition beyond those that each lemma names.
-/
import Derived.Test.YtdcbjedkddgfkaaGreatDoorVr
import Derived.Test.YtdcbjedkddgfkaaGreatDoorRowOps
namespace Go.Proofs.YtdcbjedkddgfkaaGreatDoor
set_option linter.unusedVariables false
set_option linter.unusedSimpArgs false
set_option linter.unusedSectionVars false
open Go.RowKit
theorem Blk.ca {w : World} {g : Nat} {t : TypeId} {cs : List Value} (h : Blk w g t cs.toArray) : CA w ⟨g, 0, none⟩ cs := by
 intro j u hu
 have e : (⟨g, 0, none⟩ : Addr).add j = ⟨g, j, none⟩ := by rw [Addr.add_lit]; simp
 rw [e, h.cell]
 simpa using hu
theorem CA.keep {w w' : World} {p : Addr} {cs : List Value} {F : Nat → Prop} (h : CA w p cs) (ho : Only F w w') (hp : p.block < w.heap.size) (hF : ¬ F p.block) : CA w' p cs := by
 intro j u hu
 rw [ho.cell (by rw [block_of_add]; exact hp) (by rw [block_of_add]; exact hF)]
 exact h j u hu
def AllOne : List Value → Prop
 | [] => True
 | v :: r => v.oneCell' = true ∧ AllOne r
theorem AllOne.all : ∀ {vs : List Value}, AllOne vs → ∀ u ∈ vs, u.oneCell' = true
 | [], _, u, hu => by cases hu
 | v :: r, h, u, hu => by
  rcases List.mem_cons.1 hu with rfl | hu
  · exact h.1
  · exact AllOne.all h.2 u hu
theorem size_only {F : Nat → Prop} {w w' : World} (h : Only F w w') : w.heap.size ≤ w'.heap.size := h.size
section
variable {P : Program} {ops : Array Oper} {Q : Exit → Act → World → Prop} {rest : List Oper} {a : Act} {w w' : World} {n : Nat} {l : List (Nat × Value)} {d : Nat} {op : Op} {ty : TypeId} {pos : String} {aft : Array Edge} {v : Value} {x y : Operand}
theorem LBox {e : TypeId} {cs : List Value} (H : Fr n l a) (hx : ev l x = some v) (hv : v.cells = cs.toArray) (hd : Nat.blt d n = true)
 (h : ∀ g w', w.heap.size ≤ g → g < w'.heap.size → Only NoF w w' → Blk w' g e cs.toArray → ∀ a', Fr n ((d, .pointer (some ⟨g, 0, none⟩)) :: l) a' → wpList P ops Q rest a' w') : wpList P ops Q (⟨some d, .box e x, ty, pos, aft, none⟩ :: rest) a w :=
 L (r_box H hx hv) H hd (h w.heap.size _ (Nat.le_refl _) (by simp) ((Only.refl _ _).alloc _) (Blk.new _ _ _))
theorem LAl {e : TypeId} {cs : List Value} (hz : ∀ w, (zeroValue e).run P w = .ok v w) (H : Fr n l a) (hv : v.cells = cs.toArray) (hd : Nat.blt d n = true)
 (h : ∀ g w', w.heap.size ≤ g → g < w'.heap.size → Only NoF w w' → Blk w' g e cs.toArray → ∀ a', Fr n ((d, .pointer (some ⟨g, 0, none⟩)) :: l) a' → wpList P ops Q rest a' w') : wpList P ops Q (⟨some d, .alloc e, ty, pos, aft, none⟩ :: rest) a w :=
 L (r_al hz hv) H hd (h w.heap.size _ (Nat.le_refl _) (by simp) ((Only.refl _ _).alloc _) (Blk.new _ _ _))
theorem run_store {t e : TypeId} {g off m : Nat} {cs vs cs' : List Value} (hS : ∀ w, (sizeOf t).run P w = .ok m w) (hv : v.cells = vs.toArray) (hm : (vs.length == m) = true) (h1 : AllOne vs) (hB : Blk w g e cs.toArray) (hlen : Nat.ble (off + vs.length) cs.length = true) (hcs : splice cs off vs = cs') :
 ∃ w', (Instr.storeAt t (.pointer (some ⟨g, off, none⟩)) v).run P w = .ok () w' ∧ Only (oneF g) w w' ∧ Blk w' g e cs'.toArray := by
 have hl : off + vs.length ≤ cs.length := by simpa [Nat.ble_eq] using hlen
 have hst := run_storeCells_at P g off e vs 0 cs.toArray w hB (by simpa using hl) h1.all
 simp only [Nat.add_zero, List.toList_toArray] at hst
 refine ⟨_, ?_, (Only.refl (oneF g) w).setRow' (.inl rfl) cs'.toArray, Blk.setRow_ hB _⟩
 have hm' : vs.length = m := beq_iff_eq.1 hm
 rw [← hcs]
 simp [Instr.storeAt, Instr.sureAddr, storeVar, hS, hv, hm', hst, splice]
theorem LSt {t e : TypeId} {g off m : Nat} {q : Addr} {cs vs cs' : List Value} (hS : ∀ w, (sizeOf t).run P w = .ok m w) (H : Fr n l a) (hx : ev l x = some (.pointer (some q))) (hq : q = ⟨g, off, none⟩) (hy : ev l y = some v) (hv : v.cells = vs.toArray) (hm : (vs.length == m) = true) (h1 : AllOne vs)
 (hB : Blk w g e cs.toArray) (hlen : Nat.ble (off + vs.length) cs.length = true) (hcs : splice cs off vs = cs') (h : ∀ w', Only (oneF g) w w' → Blk w' g e cs'.toArray → wpList P ops Q rest a w') :
 wpList P ops Q (⟨none, .store t x y, ty, pos, aft, none⟩ :: rest) a w := by
 subst hq
 obtain ⟨w', hr, h2, h3⟩ := run_store (P := P) hS hv hm h1 hB hlen hcs
 refine LS (w' := w') ?_ (h w' h2 h3)
 simp only [execOp, H.eval hx, H.eval hy, Sem.run_bind, hr, Result.andThen_ok, Sem.run_pure]
end
/-! ### Regions that draw their order -/
section
variable {P : Program} {Q : Exit → Act → World → Prop} {a : Act} {w w1 w' : World} {n : Nat} {l : List (Nat × Value)} {d : Nat} {op : Op} {ty : TypeId} {pos : String} {aft : Array Edge} {v : Value} {x y : Operand} {F : Nat → Prop} {T : List Nat} {k i : Nat} {r : List (Bool × Nat)} {ops : Array Oper}
theorem reg_q {id : Nat} {lo : List Oper} (Ls : List (Bool × Nat)) (hm : P.follows .mixedOrders = true)
 (hB : (Region.noSelect lo.toArray && mixB lo.toArray [] 0 (Array.replicate lo.toArray.size false) Ls && (Ls.length == lo.toArray.size) && (posT [] (Array.replicate lo.toArray.size false) == 0)) = true)
 (hQ : ∀ c (a : Act) (d : Nat) v w, Q (.panic c) (a.put (some d) v) w → Q (.panic c) a w)
 (h : ∀ w1, Only NoF w w1 → wpMix P lo.toArray Q (fun _ W => W = w1) [] 0 Ls a w1) : (Code.region id lo.toArray true).wp P Q a w :=
 wp_region_quiet Ls hm hB hQ (h _ (Only.refl _ _).drew)
/-- the first m forced operations only make memory; what is turned at all is F -/
def SK (F : Nat → Prop) (m : Nat) (w1 : World) (j : Nat) (W : World) : Prop := (j ≤ m → Only NoF w1 W) ∧ Only F w1 W
theorem SK.rd {j m : Nat} {W : World} {T : List Nat} {i : Nat} {b : Bool} (h : SK F m w1 j W) (hj : j ≤ kmax ops T i) (hk : Nat.ble (kmax ops T i) m = b) : Only (bif b then NoF else F) w1 W := by
 cases b with
 | true => exact h.1 (Nat.le_trans hj (Nat.le_of_ble_eq_true hk))
 | false => exact h.2
/-- a read of a region that only reads -/
theorem M (hr : (execOp a.eval ⟨some d, op, ty, pos, aft, none⟩).run P w = .ok (.value v) w) (H : Fr n l a) (ho : ops[i]? = some ⟨some d, op, ty, pos, aft, none⟩) (hd : Nat.blt d n = true)
 (h : ∀ a', Fr n ((d, v) :: l) a' → wpMix P ops Q (fun _ W => W = w) T k r a' w) : wpMix P ops Q (fun _ W => W = w) T k ((true, i) :: r) a w :=
 wpMix_read v ho rfl (fun _ _ _ hS => by rw [hS]; exact hr) (h _ (H.puts hd v))
theorem MG {j dj : Nat} {want c : Bool} {u : Value} (H : Fr n l a) (hj : (ops[j]?).bind (·.dst) = some dj) (hb : look l dj = some u) (hc : Gd u want c) (hr : c = true → (execOp a.eval ⟨some d, op, ty, pos, aft, some (j, want)⟩).run P w = .ok (.value v) w)
 (ho : ops[i]? = some ⟨some d, op, ty, pos, aft, some (j, want)⟩) (hd : Nat.blt d n = true)
 (h : ∀ a', Fr n ((d, gv c v) :: l) a' → wpMix P ops Q (fun _ W => W = w) T k r a' w) : wpMix P ops Q (fun _ W => W = w) T k ((true, i) :: r) a w := by
 have hx := h _ (H.puts hd _)
 by_cases e : c = true
 · rw [gv, if_pos e] at hx
   exact wpMix_want v ho (by rw [wanted_eq H hj hb hc, e]) (fun _ _ _ hS => by rw [hS]; exact hr e) hx
 · rw [gv, if_neg e] at hx
   exact wpMix_drop ho (by rw [wanted_eq H hj hb hc]; simpa using e) hx
theorem MT {j dj : Nat} {want : Bool} (H : Fr n l a) (hj : (ops[j]?).bind (·.dst) = some dj) (hb : look l dj = some (.bool want)) (hr : (execOp a.eval ⟨some d, op, ty, pos, aft, some (j, want)⟩).run P w = .ok (.value v) w)
 (ho : ops[i]? = some ⟨some d, op, ty, pos, aft, some (j, want)⟩) (hd : Nat.blt d n = true)
 (h : ∀ a', Fr n ((d, v) :: l) a' → wpMix P ops Q (fun _ W => W = w) T k r a' w) : wpMix P ops Q (fun _ W => W = w) T k ((true, i) :: r) a w :=
 wpMix_want v ho (wanted_eq (c := true) H hj hb (by cases want <;> rfl)) (fun _ _ _ hS => by rw [hS]; exact hr) (h _ (H.puts hd _))
theorem MF {j dj : Nat} {want : Bool} {u : Value} (H : Fr n l a) (hj : (ops[j]?).bind (·.dst) = some dj) (hb : look l dj = some u) (hn : Gd u want false)
 (ho : ops[i]? = some ⟨some d, op, ty, pos, aft, some (j, want)⟩) (hd : Nat.blt d n = true)
 (h : ∀ a', Fr n ((d, undef) :: l) a' → wpMix P ops Q (fun _ W => W = w) T k r a' w) : wpMix P ops Q (fun _ W => W = w) T k ((true, i) :: r) a w :=
 wpMix_drop ho (wanted_eq H hj hb hn) (h _ (H.puts hd _))
variable {m : Nat} {b : Bool}
/-- a read, in whatever world it may come up -/
theorem MSP (hk : Nat.ble (kmax ops T i) m = b) (hr : ∀ W, Only (bif b then NoF else F) w1 W → (execOp a.eval ⟨some d, op, ty, pos, aft, none⟩).run P W = .ok (.value v) W) (H : Fr n l a) (ho : ops[i]? = some ⟨some d, op, ty, pos, aft, none⟩) (hd : Nat.blt d n = true)
 (h : ∀ a', Fr n ((d, v) :: l) a' → wpMix P ops Q (SK F m w1) T k r a' w) : wpMix P ops Q (SK F m w1) T k ((true, i) :: r) a w :=
 wpMix_read v ho rfl (fun w' _ hj hS => hr w' (hS.rd hj hk)) (h _ (H.puts hd v))
theorem MSPT {j dj : Nat} {want : Bool} (hk : Nat.ble (kmax ops T i) m = b) (H : Fr n l a) (hj : (ops[j]?).bind (·.dst) = some dj) (hb : look l dj = some (.bool want)) (hr : ∀ W, Only (bif b then NoF else F) w1 W → (execOp a.eval ⟨some d, op, ty, pos, aft, some (j, want)⟩).run P W = .ok (.value v) W)
 (ho : ops[i]? = some ⟨some d, op, ty, pos, aft, some (j, want)⟩) (hd : Nat.blt d n = true)
 (h : ∀ a', Fr n ((d, v) :: l) a' → wpMix P ops Q (SK F m w1) T k r a' w) : wpMix P ops Q (SK F m w1) T k ((true, i) :: r) a w :=
 wpMix_want v ho (wanted_eq (c := true) H hj hb (by cases want <;> rfl)) (fun w' _ hj hS => hr w' (hS.rd hj hk)) (h _ (H.puts hd _))
theorem MSPF {j dj : Nat} {want : Bool} {u : Value} (H : Fr n l a) (hj : (ops[j]?).bind (·.dst) = some dj) (hb : look l dj = some u) (hn : Gd u want false)
 (ho : ops[i]? = some ⟨some d, op, ty, pos, aft, some (j, want)⟩) (hd : Nat.blt d n = true)
 (h : ∀ a', Fr n ((d, undef) :: l) a' → wpMix P ops Q (SK F m w1) T k r a' w) : wpMix P ops Q (SK F m w1) T k ((true, i) :: r) a w :=
 wpMix_drop ho (wanted_eq H hj hb hn) (h _ (H.puts hd _))
/-- a guarded read, its guard not known -/
theorem MSPG {j dj : Nat} {want c : Bool} {u : Value} (hk : Nat.ble (kmax ops T i) m = b) (H : Fr n l a) (hj : (ops[j]?).bind (·.dst) = some dj) (hb : look l dj = some u) (hc : Gd u want c) (hr : c = true → ∀ W, Only (bif b then NoF else F) w1 W → (execOp a.eval ⟨some d, op, ty, pos, aft, some (j, want)⟩).run P W = .ok (.value v) W)
 (ho : ops[i]? = some ⟨some d, op, ty, pos, aft, some (j, want)⟩) (hd : Nat.blt d n = true)
 (h : ∀ a', Fr n ((d, gv c v) :: l) a' → wpMix P ops Q (SK F m w1) T k r a' w) : wpMix P ops Q (SK F m w1) T k ((true, i) :: r) a w := by
 have hx := h _ (H.puts hd _)
 by_cases e : c = true
 · rw [gv, if_pos e] at hx
   exact wpMix_want v ho (by rw [wanted_eq H hj hb hc, e]) (fun w' _ hj hS => hr e w' (hS.rd hj hk)) hx
 · rw [gv, if_neg e] at hx
   exact wpMix_drop ho (by rw [wanted_eq H hj hb hc]; simpa using e) hx
/-- a forced operation by its run -/
theorem MD {w' : World} (hr : (execOp a.eval ⟨some d, op, ty, pos, aft, none⟩).run P w = .ok (.value v) w') (H : Fr n l a) (ho : ops[i]? = some ⟨some d, op, ty, pos, aft, none⟩) (hd : Nat.blt d n = true) (hS : SK F m w1 (k + 1) w')
 (h : ∀ a', Fr n ((d, v) :: l) a' → wpMix P ops Q (SK F m w1) T (k + 1) r a' w') : wpMix P ops Q (SK F m w1) T k ((false, i) :: r) a w := by
 refine wpMix_do ho rfl ?_
 simp only [Oper.wp, hr]
 exact ⟨hS, h _ (H.puts hd _)⟩
theorem MDT {w' : World} {j dj : Nat} {want : Bool} (H : Fr n l a) (hj : (ops[j]?).bind (·.dst) = some dj) (hb : look l dj = some (.bool want)) (hr : (execOp a.eval ⟨some d, op, ty, pos, aft, some (j, want)⟩).run P w = .ok (.value v) w') (ho : ops[i]? = some ⟨some d, op, ty, pos, aft, some (j, want)⟩) (hd : Nat.blt d n = true) (hS : SK F m w1 (k + 1) w')
 (h : ∀ a', Fr n ((d, v) :: l) a' → wpMix P ops Q (SK F m w1) T (k + 1) r a' w') : wpMix P ops Q (SK F m w1) T k ((false, i) :: r) a w := by
 have hw := wanted_eq (op := op) (ty := ty) (pos := pos) (aft := aft) (d := d) (want := want) (c := true) H hj hb (by cases want <;> rfl)
 simp only [wpMix, wpOp, ho]
 rw [hw, if_pos rfl]
 refine .inl ?_
 simp only [Oper.wp, hr]
 exact ⟨hS, h _ (H.puts hd _)⟩
theorem MSC {xs : List Operand} {ats : Array TypeId} {f : FuncId} {vs : List Value} {fo : Operand} {R : Ending → World → Prop} (H : Fr n l a) (ho : ops[i]? = some ⟨some d, .call { callee := .value fo, args := xs.toArray, argTypes := ats }, ty, pos, aft, none⟩) (hfo : ev l fo = some (.func (.func f) #[] #[])) (hv : evs l xs = some vs)
 (hf : ∀ args w, (callFunc f args).run P w = .ok (.enter f args) w) (hc : Calls P f vs.toArray w R) (hd : Nat.blt d n = true)
 (h : ∀ e w', R e w' → ∃ v, e = .returned v ∧ SK F m w1 (k + 1) w' ∧ ∀ a', Fr n ((d, v) :: l) a' → wpMix P ops Q (SK F m w1) T (k + 1) r a' w') : wpMix P ops Q (SK F m w1) T k ((false, i) :: r) a w := by
 refine wpMix_do ho rfl ?_
 simp only [Oper.wp, call_run H hfo hv hf, Oper.upon_enter]
 refine hc.mono fun e w' hR => ?_
 obtain ⟨v, rfl, h1, h2⟩ := h e w' hR
 exact ⟨h1, h2 _ (H.puts hd v)⟩
/-- a call under a guard that is not known -/
theorem MSGC {j dj : Nat} {want c : Bool} {u : Value} {xs : List Operand} {ats : Array TypeId} {f : FuncId} {vs : List Value} {fo : Operand} (Tv : Value → World → Prop) (H : Fr n l a) (hj : (ops[j]?).bind (·.dst) = some dj) (hb : look l dj = some u) (hgc : Gd u want c)
 (ho : ops[i]? = some ⟨some d, .call { callee := .value fo, args := xs.toArray, argTypes := ats }, ty, pos, aft, some (j, want)⟩) (hfo : ev l fo = some (.func (.func f) #[] #[])) (hv : c = true → evs l xs = some vs)
 (hf : ∀ args w, (callFunc f args).run P w = .ok (.enter f args) w) (hc : c = true → Calls P f vs.toArray w (fun e w' => ∃ v, e = .returned v ∧ Tv v w')) (hn : c = false → Tv undef w) (hd : Nat.blt d n = true)
 (h : ∀ v w', Tv v w' → SK F m w1 (k + 1) w' ∧ ∀ a', Fr n ((d, v) :: l) a' → wpMix P ops Q (SK F m w1) T (k + 1) r a' w') : wpMix P ops Q (SK F m w1) T k ((false, i) :: r) a w := by
 have hw := wanted_eq (op := .call { callee := .value fo, args := xs.toArray, argTypes := ats }) (ty := ty) (pos := pos) (aft := aft) (d := d) (want := want) H hj hb hgc
 simp only [wpMix, wpOp, ho]
 rw [hw]
 by_cases e : c = true
 · rw [if_pos e]
   refine .inl ?_
   simp only [Oper.wp, call_run H hfo (hv e) hf, Oper.upon_enter]
   refine (hc e).mono fun e w' hR => ?_
   obtain ⟨v, rfl, h2⟩ := hR
   obtain ⟨h1, h2⟩ := h _ _ h2
   exact ⟨h1, h2 _ (H.puts hd v)⟩
 · rw [if_neg e]
   obtain ⟨h1, h2⟩ := h _ _ (hn (by simpa using e))
   exact ⟨h1, h2 _ (H.puts hd _)⟩
/-- a store -/
theorem MSS {t e : TypeId} {g off sz : Nat} {q : Addr} {cs vs cs' : List Value} (hS : ∀ w, (sizeOf t).run P w = .ok sz w) (H : Fr n l a) (ho : ops[i]? = some ⟨none, .store t x y, ty, pos, aft, none⟩) (hx : ev l x = some (.pointer (some q))) (hq : q = ⟨g, off, none⟩) (hy : ev l y = some v) (hv : v.cells = vs.toArray) (hm : (vs.length == sz) = true) (h1 : AllOne vs)
 (hB : Blk w g e cs.toArray) (hlen : Nat.ble (off + vs.length) cs.length = true) (hcs : splice cs off vs = cs') (h : ∀ w', Only (oneF g) w w' → Blk w' g e cs'.toArray → SK F m w1 (k + 1) w' ∧ wpMix P ops Q (SK F m w1) T (k + 1) r a w') :
 wpMix P ops Q (SK F m w1) T k ((false, i) :: r) a w := by
 subst hq
 obtain ⟨w', hr, h2, h3⟩ := run_store (P := P) hS hv hm h1 hB hlen hcs
 refine wpMix_do ho rfl ?_
 have hr' : (execOp a.eval ⟨none, .store t x y, ty, pos, aft, none⟩).run P w = .ok .skip w' := by
  simp only [execOp, H.eval hx, H.eval hy, Sem.run_bind, hr, Result.andThen_ok, Sem.run_pure]
 simp only [Oper.wp, hr']
 obtain ⟨h4, h5⟩ := h w' h2 h3
 exact ⟨h4, h5⟩
end
/-! ### Loops, returns -/
section
variable {P : Program} {Q : Exit → Act → World → Prop} {a : Act} {w : World} {n : Nat} {l : List (Nat × Value)}
theorem least (p : Nat → Prop) (h : ∃ m, p m) : ∃ m, p m ∧ ∀ k, p k → m ≤ k := by
 obtain ⟨m, hm⟩ := h
 induction m using Nat.strongRecOn with
 | _ m ih =>
  by_cases h : ∃ k, k < m ∧ p k
  · obtain ⟨k, hk, hp⟩ := h
    exact ih k hk hp
  · exact ⟨m, hm, fun k hk => by
     rcases Nat.lt_or_ge k m with h1 | h1
     · exact absurd ⟨k, h1, hk⟩ h
     · exact h1⟩
theorem wp_loop_m {c : Code} (I : Nat → Act → World → Prop) (h0 : ∃ m, I m a w)
 (round : ∀ m a w, I m a w → c.wp P (Exit.then (fun a' w' => ∃ m', m' < m ∧ I m' a' w') Q) a w) : (Code.loop c).wp P Q a w := by
 classical
 let μ : Act → World → Nat := fun a w => if h : ∃ m, I m a w then Classical.choose (least (fun m => I m a w) h) else 0
 refine wp_loop (fun a w => ∃ m, I m a w) μ h0 fun a w h => ?_
 have hs := Classical.choose_spec (least (fun m => I m a w) h)
 have hmu : μ a w = Classical.choose (least (fun m => I m a w) h) := dif_pos h
 refine Code.wp_mono (fun e a' w' q => ?_) (round _ a w hs.1)
 cases e with
 | normal =>
  obtain ⟨m', hlt, hI⟩ := q
  have h' : ∃ m, I m a' w' := ⟨m', hI⟩
  have hs' := Classical.choose_spec (least (fun m => I m a' w') h')
  have hmu' : μ a' w' = Classical.choose (least (fun m => I m a' w') h') := dif_pos h'
  refine ⟨h', ?_⟩
  rw [hmu, hmu']
  exact Nat.lt_of_le_of_lt (hs'.2 _ hI) hlt
 | exit id => exact q
 | goto l => exact q
 | ret => exact q
 | panic ch => exact q
 | outgrown => exact q
/-- the values of a function's results -/
def RVs (P : Program) (w : World) (l : List (Nat × Value)) : List ResultVar → List Value → Prop
 | [], [] => True
 | .tmp t :: r, v :: vs => look l t = some v ∧ RVs P w l r vs
 | .cell t ty :: r, v :: vs => (∃ p, look l t = some (.pointer (some p)) ∧ (loadVar ty p).run P w = .ok v w) ∧ RVs P w l r vs
 | _, _ => False
def resF (tmps : Array Value) : ResultVar → Sem Value
 | .tmp t => pure (tmps.getD t undef)
 | .cell a t => do loadVar t (← asAddr (tmps.getD a undef))
theorem RVs.run (H : Fr n l a) : ∀ {rs : List ResultVar} {vs : List Value}, RVs P w l rs vs → (rs.mapM (resF a.tmps)).run P w = .ok vs w
 | [], [], _ => by simp
 | [], _ :: _, h => h.elim
 | .tmp t :: r, [], h => h.elim
 | .cell t ty :: r, [], h => h.elim
 | .tmp t :: r, v :: vs, h => by
  obtain ⟨h1, h2⟩ := h
  have ih := RVs.run H h2
  have := H.at_ t v h1
  have e : (resF a.tmps (.tmp t)).run P w = .ok v w := by simp [resF, Array.getD_eq_getD_getElem?, this]
  simp [List.mapM_cons, e, ih]
 | .cell t ty :: r, v :: vs, h => by
  obtain ⟨⟨p, h1, h3⟩, h2⟩ := h
  have ih := RVs.run H h2
  have := H.at_ t _ h1
  have e : (resF a.tmps (.cell t ty)).run P w = .ok v w := by simp [resF, Array.getD_eq_getD_getElem?, this, asAddr, h3]
  simp [List.mapM_cons, e, ih]
def tupV : List Value → Value
 | [v] => v
 | vs => .tuple vs.toArray
theorem ret_of {fn : Func} {rs : List ResultVar} {vs : List Value} {R : Ending → World → Prop} (H : Fr n l a) (hr : fn.results = rs.toArray) (hv : RVs P w l rs vs) (h : R (.returned (tupV vs)) w) : bodyPost P fn R .ret a w := by
 refine ⟨H.dfr, _, ?_, h⟩
 have := RVs.run (P := P) (w := w) H hv
 have e : tupV vs = (if h : vs.toArray.size = 1 then vs.toArray[0] else .tuple vs.toArray) := by
  cases vs with
  | nil => rfl
  | cons v vs =>
   cases vs with
   | nil => rfl
   | cons u us => simp [tupV]
 have hres : results fn a.tmps = (do let vs ← fn.results.mapM (resF a.tmps); pure (if h : vs.size = 1 then vs[0] else .tuple vs)) := rfl
 rw [hres, hr, e]
 have h3 : (rs.toArray.mapM (resF a.tmps)).run P w = .ok vs.toArray w := by
  rw [List.mapM_toArray]
  simp [this]
 simp only [Sem.run_bind, h3, Result.andThen_ok]
 rfl
theorem l_ca {ty : TypeId} {p : Addr} {cs : List Value} {m : Nat} (hA : ∀ w, (isAgg ty).run P w = .ok true w) (hS : ∀ w, (sizeOf ty).run P w = .ok m w) (hc : CA w p cs) (hm : (cs.length == m) = true) : (loadVar ty p).run P w = .ok (.agg cs.toArray) w := by
 have := run_loadFrom (P := P) (w := w) (p := p) m 0 cs #[] (beq_iff_eq.1 hm) (fun j u hu => by rw [Nat.zero_add]; exact hc j u hu)
 simp [loadVar, hA, hS, loadCells, this]
theorem br {x y : Code} {c : Operand} {t : Bool} (H : Fr n l a) (hc : ev l c = some (.bool t)) (ht : t = true → x.wp P Q a w) (hf : t = false → y.wp P Q a w) : (Code.cond c x y).wp P Q a w :=
 wp_cond_split (H.eval hc) ht hf
theorem br_true {x y : Code} {c : Operand} (H : Fr n l a) (hc : ev l c = some (.bool true)) (h : x.wp P Q a w) : (Code.cond c x y).wp P Q a w := wp_cond_true (H.eval hc) h
theorem br_false {x y : Code} {c : Operand} (H : Fr n l a) (hc : ev l c = some (.bool false)) (h : y.wp P Q a w) : (Code.cond c x y).wp P Q a w := wp_cond_false (H.eval hc) h
theorem th_exit {K : Act → World → Prop} {id : Nat} (h : Q (.exit id) a w) : Exit.then K Q (.exit id) a w := h
theorem ib_hit {id : Nat} (h : Q .normal a w) : Exit.inBlock id Q (.exit id) a w := by
 show (if id = id then Q .normal a w else _)
 rw [if_pos rfl]; exact h
end
/-! ### Calls whose value is fixed, or a bool that tells something -/
section
variable {P : Program} {ops : Array Oper} {Q : Exit → Act → World → Prop} {rest : List Oper} {a : Act} {w w1 w' : World} {n : Nat} {l : List (Nat × Value)} {d : Nat} {ty : TypeId} {pos : String} {aft : Array Edge} {v : Value} {xs : List Operand} {ats : Array TypeId} {f : FuncId} {vs : List Value} {fo : Operand} {j dj : Nat} {want c : Bool} {u : Value} {T : List Nat} {k i : Nat} {r : List (Bool × Nat)} {F : Nat → Prop} {m : Nat}
def Fix (v : Value) (w : World) (e : Ending) (w' : World) : Prop := e = .returned v ∧ Only NoF w w'
theorem LCV (H : Fr n l a) (hfo : ev l fo = some (.func (.func f) #[] #[])) (hv : evs l xs = some vs) (hf : ∀ args w, (callFunc f args).run P w = .ok (.enter f args) w) (hc : Calls P f vs.toArray w (Fix v w)) (hd : Nat.blt d n = true)
 (h : ∀ w', Only NoF w w' → ∀ a', Fr n ((d, v) :: l) a' → wpList P ops Q rest a' w') : wpList P ops Q (⟨some d, .call { callee := .value fo, args := xs.toArray, argTypes := ats }, ty, pos, aft, none⟩ :: rest) a w :=
 LC H hfo hv hf hc hd fun _ _ ⟨h1, h2⟩ => ⟨_, h1, h _ h2⟩
theorem LGV (H : Fr n l a) (hj : (ops[j]?).bind (·.dst) = some dj) (hb : look l dj = some u) (hgc : Gd u want c) (hfo : ev l fo = some (.func (.func f) #[] #[]))
 (hv : c = true → evs l xs = some vs) (hf : ∀ args w, (callFunc f args).run P w = .ok (.enter f args) w) (hc : c = true → Calls P f vs.toArray w (Fix v w)) (hd : Nat.blt d n = true) (h : ∀ w', Only NoF w w' → ∀ a', Fr n ((d, gv c v) :: l) a' → wpList P ops Q rest a' w') :
 wpList P ops Q (⟨some d, .call { callee := .value fo, args := xs.toArray, argTypes := ats }, ty, pos, aft, some (j, want)⟩ :: rest) a w :=
 LGC (fun v' w' => v' = gv c v ∧ Only NoF w w') H hj hb hgc hfo hv hf (fun h => (hc h).mono fun _ _ ⟨h1, h2⟩ => ⟨_, h1, by rw [gv, if_pos h], h2⟩) (fun h => ⟨by rw [gv, if_neg (by simp [h])], Only.refl _ _⟩) hd fun v' w' ⟨h1, h2⟩ => by subst h1; exact h _ h2
theorem MSV (H : Fr n l a) (ho : ops[i]? = some ⟨some d, .call { callee := .value fo, args := xs.toArray, argTypes := ats }, ty, pos, aft, none⟩) (hfo : ev l fo = some (.func (.func f) #[] #[])) (hv : evs l xs = some vs)
 (hf : ∀ args w, (callFunc f args).run P w = .ok (.enter f args) w) (hc : Calls P f vs.toArray w (Fix v w)) (hd : Nat.blt d n = true) (hw : ∀ w', Only NoF w w' → SK F m w1 (k + 1) w')
 (h : ∀ w', Only NoF w w' → ∀ a', Fr n ((d, v) :: l) a' → wpMix P ops Q (SK F m w1) T (k + 1) r a' w') : wpMix P ops Q (SK F m w1) T k ((false, i) :: r) a w :=
 MSC H ho hfo hv hf hc hd fun _ _ ⟨h1, h2⟩ => ⟨_, h1, hw _ h2, h _ h2⟩
theorem MSGV (H : Fr n l a) (hj : (ops[j]?).bind (·.dst) = some dj) (hb : look l dj = some u) (hgc : Gd u want c) (ho : ops[i]? = some ⟨some d, .call { callee := .value fo, args := xs.toArray, argTypes := ats }, ty, pos, aft, some (j, want)⟩) (hfo : ev l fo = some (.func (.func f) #[] #[]))
 (hv : c = true → evs l xs = some vs) (hf : ∀ args w, (callFunc f args).run P w = .ok (.enter f args) w) (hc : c = true → Calls P f vs.toArray w (Fix v w)) (hd : Nat.blt d n = true) (hw : ∀ w', Only NoF w w' → SK F m w1 (k + 1) w')
 (h : ∀ w', Only NoF w w' → ∀ a', Fr n ((d, gv c v) :: l) a' → wpMix P ops Q (SK F m w1) T (k + 1) r a' w') : wpMix P ops Q (SK F m w1) T k ((false, i) :: r) a w :=
 MSGC (fun v' w' => v' = gv c v ∧ Only NoF w w') H hj hb hgc ho hfo hv hf (fun h => (hc h).mono fun _ _ ⟨h1, h2⟩ => ⟨_, h1, by rw [gv, if_pos h], h2⟩) (fun h => ⟨by rw [gv, if_neg (by simp [h])], Only.refl _ _⟩) hd
  fun v' w' ⟨h1, h2⟩ => by subst h1; exact ⟨hw _ h2, h _ h2⟩
end
/-! ### Worlds -/
section
variable {w0 w w' : World} {g g' : Nat}
theorem Blk.st {t : TypeId} {cs : Array Value} (h : Blk w g t cs) (s : Only (oneF g') w w') (hne : g ≠ g') : Blk w' g t cs := h.only s hne
theorem Blk.k {t : TypeId} {cs : Array Value} (h : Blk w g t cs) (s : Only NoF w w') : Blk w' g t cs := h.only s id
theorem ne_of (h1 : g < w.heap.size) (h2 : w.heap.size ≤ g') : g ≠ g' := by omega
theorem nt_t {b : Bool} (h : (!b) = true) : b = false := by cases b <;> simp_all
theorem nt_f {b : Bool} (h : (!b) = false) : b = true := by cases b <;> simp_all
theorem or_f {b c : Bool} (h : (b || c) = false) : b = false ∧ c = false := by cases b <;> simp_all
theorem and_t {b c : Bool} (h : (b && c) = true) : b = true ∧ c = true := by cases b <;> simp_all
theorem wp_join {P : Program} {Q : Exit → Act → World → Prop} {a : Act} {x y : Code} (J : Act → World → Prop) (h1 : x.wp P (Exit.then J Q) a w) (h2 : ∀ a w, J a w → y.wp P Q a w) : (Code.seq x y).wp P Q a w :=
 wp_seq (Code.wp_mono (fun e a' w' q => by cases e <;> first | exact h2 _ _ q | exact q) h1)
end
end Go.Proofs.YtdcbjedkddgfkaaGreatDoor
