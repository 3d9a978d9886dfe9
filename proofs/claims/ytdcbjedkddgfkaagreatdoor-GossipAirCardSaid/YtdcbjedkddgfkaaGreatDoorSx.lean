/-
  Strings cut and indexed, nil tests, bound functions, facts on rows: more of the calculus of small steps. No condition beyond those that each lemma names.
-/
import Derived.Test.YtdcbjedkddgfkaaGreatDoorVp
import Derived.Test.YtdcbjedkddgfkaaGreatDoorRow
namespace Go.Proofs.YtdcbjedkddgfkaaGreatDoor
set_option linter.unusedVariables false
set_option linter.unusedSimpArgs false
set_option linter.unusedSectionVars false
open Go.RowKit
/-! ### rows -/
def AllB : Nat → Prop := fun _ => True
theorem SliceOf.pl {α : Type} {size : Nat} {R : World → List Value → α → Prop} {l : List α} {w : World} {v : Value} {S : Nat → Prop} (h : SliceOf S size R w v l) : SliceOf AllB size R w v l := h.sup fun _ _ => trivial
def rgB (lo hi : Nat) : Nat → Prop := fun k => lo ≤ k ∧ k < hi
theorem SliceOf.rg {α : Type} {size : Nat} {R : World → List Value → α → Prop} {l : List α} {w : World} {v : Value} {lo : Nat} (h : SliceOf (geB lo) size R w v l) : SliceOf (rgB lo w.heap.size) size R w v l := by
 obtain ⟨A, cap, xs, e, h1, h2, h3, h4⟩ := h
 refine ⟨A, cap, xs, e, h1, h2, ⟨h3.1, fun hn => ?_⟩, h4⟩
 obtain ⟨ad, e, hg, hlt, hc⟩ := h3.2 hn
 exact ⟨ad, e, ⟨hg, hlt⟩, hlt, hc⟩
theorem take_succ_get {α : Type} {l : List α} {k : Nat} {x : α} (h : l[k]? = some x) : l.take (k + 1) = l.take k ++ [x] := by
 obtain ⟨hk, rfl⟩ := List.getElem?_eq_some_iff.1 h
 exact List.take_succ_eq_append_getElem hk
section
variable {P : Program} {w : World} {n : Nat} {l : List (Nat × Value)} {a : Act} {dst : Option Tmp} {ty : TypeId} {pos : String} {aft : Array Edge} {g : Option (Nat × Bool)} {x y : Operand} {v u : Value}
theorem r_eqRI {k : IntKind} {p : Int} {t yt : TypeId} (H : Fr n l a) (hx : ev l x = some (.int k p)) (hy : ev l y = some (.int k p)) : (execOp a.eval ⟨dst, .binOp .eql t x y yt, ty, pos, aft, g⟩).run P w = .ok (.value (.bool true)) w := by
 have := r_eqI (P := P) (w := w) (dst := dst) (ty := ty) (pos := pos) (aft := aft) (g := g) (t := t) (yt := yt) H hx hy
 rwa [decide_eq_true rfl] at this
theorem r_neRI {k : IntKind} {p : Int} {t yt : TypeId} (H : Fr n l a) (hx : ev l x = some (.int k p)) (hy : ev l y = some (.int k p)) : (execOp a.eval ⟨dst, .binOp .neq t x y yt, ty, pos, aft, g⟩).run P w = .ok (.value (.bool false)) w := by
 have := r_neI (P := P) (w := w) (dst := dst) (ty := ty) (pos := pos) (aft := aft) (g := g) (t := t) (yt := yt) H hx hy
 rwa [decide_eq_true rfl] at this
theorem r_neRS {s : Str} {t yt : TypeId} (H : Fr n l a) (hx : ev l x = some (strV s)) (hy : ev l y = some (strV s)) : (execOp a.eval ⟨dst, .binOp .neq t x y yt, ty, pos, aft, g⟩).run P w = .ok (.value (.bool false)) w := by
 have := r_neS (P := P) (w := w) (dst := dst) (ty := ty) (pos := pos) (aft := aft) (g := g) (t := t) (yt := yt) H hx hy
 rwa [decide_eq_true rfl] at this
/-! ### strings -/
theorem extract_mk (s : Str) (lo hi : Nat) : (ByteArray.mk s.toArray).extract lo hi = ByteArray.mk ((s.drop lo).take (hi - lo)).toArray := by
 apply ByteArray.ext
 simp [ByteArray.data_extract, List.extract_eq_take_drop]
theorem bound_ok {z : Int} {m cap : Nat} {c : BoundsCode} (hz : z = (m : Int)) (h : m ≤ cap) : (Instr.sliceBound (.int .i64 z) cap c).run P w = .ok m w := by
 subst hz
 unfold Instr.sliceBound
 have h1 : (0 : Int) ≤ (m : Int) ∧ (m : Int) ≤ (cap : Int) := by omega
 simp only [asIntOf, Sem.run_bind, Sem.run_pure, Result.andThen_ok, if_pos h1, Int.toNat_natCast]
theorem r_ssh {t : TypeId} {s : Str} {m : Nat} {xh : Operand} {zh : Int} (hu : P.underlying t = some .string) (H : Fr n l a) (hx : ev l x = some (strV s)) (hh : ev l xh = some (.int .i64 zh)) (hz : zh = (m : Int)) (hm : m ≤ s.length) :
 (execOp a.eval ⟨dst, .slice t x none (some xh) none, ty, pos, aft, g⟩).run P w = .ok (.value (strV (s.take m))) w := by
 have h0 : (ByteArray.mk s.toArray).size = s.length := rfl
 have hr : (Instr.sliceAt t (strV s) none (some (.int .i64 zh)) none).run P w = .ok (strV (s.take m)) w := by
  simp only [Instr.sliceAt, Instr.slice, Instr.sliceBounds, Sem.run_bind, run_underlying hu, Result.andThen_ok, Option.isSome_none, Bool.false_eq_true, if_false, h0, bound_ok hz hm, Sem.run_pure, extract_mk, List.drop_zero, Nat.sub_zero]
 simp only [execOp, Option.map_some, Option.map_none, H.eval hx, H.eval hh, Sem.run_bind, hr, Result.andThen_ok, Sem.run_pure]
theorem r_ssl {t : TypeId} {s : Str} {lo : Nat} {xl : Operand} {zl : Int} (hu : P.underlying t = some .string) (H : Fr n l a) (hx : ev l x = some (strV s)) (hl : ev l xl = some (.int .i64 zl)) (hz : zl = (lo : Int)) (hm : lo ≤ s.length) :
 (execOp a.eval ⟨dst, .slice t x (some xl) none none, ty, pos, aft, g⟩).run P w = .ok (.value (strV (s.drop lo))) w := by
 have h0 : (ByteArray.mk s.toArray).size = s.length := rfl
 have e : (s.drop lo).take (s.length - lo) = s.drop lo := List.take_of_length_le (by rw [List.length_drop]; exact Nat.le_refl _)
 have hr : (Instr.sliceAt t (strV s) (some (.int .i64 zl)) none none).run P w = .ok (strV (s.drop lo)) w := by
  simp only [Instr.sliceAt, Instr.slice, Instr.sliceBounds, Sem.run_bind, run_underlying hu, Result.andThen_ok, Option.isSome_none, Bool.false_eq_true, if_false, h0, bound_ok hz hm, Sem.run_pure, extract_mk, e]
 simp only [execOp, Option.map_some, Option.map_none, H.eval hx, H.eval hl, Sem.run_bind, hr, Result.andThen_ok, Sem.run_pure]
/-! ### nil -/
theorem eq_nil0_ (d : Nat) {t : TypeId} {ms : Array (String × TypeId)} (hu : P.underlying t = some (.interface ms)) : (Op.equalIn (d + 1) t .nilIface .nilIface).run P w = .ok true w := by
 simp only [Op.equalIn, Sem.run_bind, run_underlying hu, Result.andThen_ok, Sem.run_pure, Option.isNone_none]
theorem eq_nil0 {t : TypeId} {ms : Array (String × TypeId)} (hu : P.underlying t = some (.interface ms)) : (Op.equal t .nilIface .nilIface).run P w = .ok true w := eq_nil0_ 9999 hu
theorem eq_nil1_ (d : Nat) {t t' : TypeId} {p : Value} {ms : Array (String × TypeId)} (hu : P.underlying t = some (.interface ms)) : (Op.equalIn (d + 1) t (.iface t' p) .nilIface).run P w = .ok false w := by
 simp only [Op.equalIn, Sem.run_bind, run_underlying hu, Result.andThen_ok, Sem.run_pure, Option.isNone_none]
theorem eq_nil1 {t t' : TypeId} {p : Value} {ms : Array (String × TypeId)} (hu : P.underlying t = some (.interface ms)) : (Op.equal t (.iface t' p) .nilIface).run P w = .ok false w := eq_nil1_ 9999 hu
theorem r_neNil0 {t yt : TypeId} {ms : Array (String × TypeId)} (hu : P.underlying t = some (.interface ms)) (H : Fr n l a) (hx : ev l x = some .nilIface) : (execOp a.eval ⟨dst, .binOp .neq t x (.const .nilIface) yt, ty, pos, aft, g⟩).run P w = .ok (.value (.bool false)) w := by
 have hg : (eqGuard .neq t x (.const .nilIface) .nilIface .nilIface).run P w = .ok () w := by simp [eqGuard]
 have hy : a.eval (.const .nilIface) = .nilIface := rfl
 simp only [execOp, H.eval hx, hy, Sem.run_bind, hg, Result.andThen_ok, binOp, eq_nil0 hu, Sem.run_pure, Bool.not_true]
theorem r_neNil1 {t yt t' : TypeId} {p : Value} {ms : Array (String × TypeId)} (hu : P.underlying t = some (.interface ms)) (H : Fr n l a) (hx : ev l x = some (.iface t' p)) : (execOp a.eval ⟨dst, .binOp .neq t x (.const .nilIface) yt, ty, pos, aft, g⟩).run P w = .ok (.value (.bool true)) w := by
 have hg : (eqGuard .neq t x (.const .nilIface) (.iface t' p) .nilIface).run P w = .ok () w := by simp [eqGuard]
 have hy : a.eval (.const .nilIface) = .nilIface := rfl
 simp only [execOp, H.eval hx, hy, Sem.run_bind, hg, Result.andThen_ok, binOp, eq_nil1 hu, Sem.run_pure, Bool.not_false]
/-! ### bound functions -/
theorem r_mf {f : FuncId} {first : List Operand} {vs : List Value} (H : Fr n l a) (hv : evs l first = some vs) : (execOp a.eval ⟨dst, .makeFunc (.func f) first.toArray #[], ty, pos, aft, g⟩).run P w = .ok (.value (.func (.func f) vs.toArray #[])) w := by
 have := H.evals hv
 simp [execOp, Instr.makeFunc, this]
end
section
variable {P : Program} {ops : Array Oper} {Q : Exit → Act → World → Prop} {rest : List Oper} {a : Act} {w w' : World} {n : Nat} {l : List (Nat × Value)} {d : Nat} {ty : TypeId} {pos : String} {aft : Array Edge}
theorem call_runB {xs : List Operand} {ats : Array TypeId} {f : FuncId} {bs vs : List Value} {dst : Option Tmp} {g : Option (Nat × Bool)} {fo : Operand} (H : Fr n l a) (hfo : ev l fo = some (.func (.func f) bs.toArray #[])) (hv : evs l xs = some vs) (hf : ∀ args w, (callFunc f args).run P w = .ok (.enter f args) w) :
 (execOp a.eval ⟨dst, .call { callee := .value fo, args := xs.toArray, argTypes := ats }, ty, pos, aft, g⟩).run P w = .ok (.enter f (bs ++ vs).toArray) w := by
 have := H.evals hv
 simp only [execOp, resolve, Deferred.ofValue, invoke, H.eval hfo, Sem.run_bind, Sem.run_pure, Result.andThen_ok, List.map_toArray, this, Array.append_empty, List.append_toArray, hf]
theorem LCB {xs : List Operand} {ats : Array TypeId} {f : FuncId} {bs vs : List Value} {fo : Operand} {R : Ending → World → Prop} (H : Fr n l a) (hfo : ev l fo = some (.func (.func f) bs.toArray #[])) (hv : evs l xs = some vs) (hf : ∀ args w, (callFunc f args).run P w = .ok (.enter f args) w)
 (hc : Calls P f (bs ++ vs).toArray w R) (hd : Nat.blt d n = true) (h : ∀ e w', R e w' → ∃ v, e = .returned v ∧ ∀ a', Fr n ((d, v) :: l) a' → wpList P ops Q rest a' w') :
 wpList P ops Q (⟨some d, .call { callee := .value fo, args := xs.toArray, argTypes := ats }, ty, pos, aft, none⟩ :: rest) a w := by
 refine wpList_plain rfl fun K hK => ?_
 simp only [Oper.wp, call_runB H hfo hv hf, Oper.upon_enter]
 refine hc.mono fun e w' hR => ?_
 obtain ⟨v, rfl, h2⟩ := h e w' hR
 exact hK _ _ (h2 _ (H.puts hd v))
end
end Go.Proofs.YtdcbjedkddgfkaaGreatDoor
