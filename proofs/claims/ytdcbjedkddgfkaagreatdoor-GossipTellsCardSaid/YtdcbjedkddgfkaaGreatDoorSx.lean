/-
  Strings cut and indexed, nil tests, bound functions, facts on rows: more of the calculus of small steps. No condition beyond those that each lemma names.
-/
import Derived.Test.YtdcbjedkddgfkaaGreatDoorVp
import Derived.Test.YtdcbjedkddgfkaaGreatDoorRow
namespace Go.Proofs.YtdcbjedkddgfkaaGreatDoor
set_option linter.unusedVariables false
set_option linter.unusedSimpArgs false
set_option linter.unusedSectionVars false
open Go.RowKit
/-! ### rows -/
def AllB : Nat → Prop := fun _ => True
theorem SliceOf.pl {α : Type} {size : Nat} {R : World → List Value → α → Prop} {l : List α} {w : World} {v : Value} {S : Nat → Prop} (h : SliceOf S size R w v l) : SliceOf AllB size R w v l := h.sup fun _ _ => trivial
def rgB (lo hi : Nat) : Nat → Prop := fun k => lo ≤ k ∧ k < hi
theorem SliceOf.rg {α : Type} {size : Nat} {R : World → List Value → α → Prop} {l : List α} {w : World} {v : Value} {lo : Nat} (h : SliceOf (geB lo) size R w v l) : SliceOf (rgB lo w.heap.size) size R w v l := by
 obtain ⟨A, cap, xs, e, h1, h2, h3, h4⟩ := h
 refine ⟨A, cap, xs, e, h1, h2, ⟨h3.1, fun hn => ?_⟩, h4⟩
 obtain ⟨ad, e, hg, hlt, hc⟩ := h3.2 hn
 exact ⟨ad, e, ⟨hg, hlt⟩, hlt, hc⟩
theorem take_succ_get {α : Type} {l : List α} {k : Nat} {x : α} (h : l[k]? = some x) : l.take (k + 1) = l.take k ++ [x] := by
 obtain ⟨hk, rfl⟩ := List.getElem?_eq_some_iff.1 h
 exact List.take_succ_eq_append_getElem hk
section
variable {P : Program} {w : World} {n : Nat} {l : List (Nat × Value)} {a : Act} {dst : Option Tmp} {ty : TypeId} {pos : String} {aft : Array Edge} {g : Option (Nat × Bool)} {x y : Operand} {v u : Value}
theorem r_eqRI {k : IntKind} {p : Int} {t yt : TypeId} (H : Fr n l a) (hx : ev l x = some (.int k p)) (hy : ev l y = some (.int k p)) : (execOp a.eval ⟨dst, .binOp .eql t x y yt, ty, pos, aft, g⟩).run P w = .ok (.value (.bool true)) w := by
 have := r_eqI (P := P) (w := w) (dst := dst) (ty := ty) (pos := pos) (aft := aft) (g := g) (t := t) (yt := yt) H hx hy
 rwa [decide_eq_true rfl] at this
theorem r_neRI {k : IntKind} {p : Int} {t yt : TypeId} (H : Fr n l a) (hx : ev l x = some (.int k p)) (hy : ev l y = some (.int k p)) : (execOp a.eval ⟨dst, .binOp .neq t x y yt, ty, pos, aft, g⟩).run P w = .ok (.value (.bool false)) w := by
 have := r_neI (P := P) (w := w) (dst := dst) (ty := ty) (pos := pos) (aft := aft) (g := g) (t := t) (yt := yt) H hx hy
 rwa [decide_eq_true rfl] at this
theorem r_neRS {s : Str} {t yt : TypeId} (H : Fr n l a) (hx : ev l x = some (strV s)) (hy : ev l y = some (strV s)) : (execOp a.eval ⟨dst, .binOp .neq t x y yt, ty, pos, aft, g⟩).run P w = .ok (.value (.bool false)) w := by
 have := r_neS (P := P) (w := w) (dst := dst) (ty := ty) (pos := pos) (aft := aft) (g := g) (t := t) (yt := yt) H hx hy
 rwa [decide_eq_true rfl] at this
/-! ### strings -/
theorem extract_mk (s : Str) (lo hi : Nat) : (ByteArray.mk s.toArray).extract lo hi = ByteArray.mk ((s.drop lo).take (hi - lo)).toArray := by
 apply ByteArray.ext
 simp [ByteArray.data_extract, List.extract_eq_take_drop]
/-! ### nil -/
/-! ### bound functions -/
end
section
variable {P : Program} {ops : Array Oper} {Q : Exit → Act → World → Prop} {rest : List Oper} {a : Act} {w w' : World} {n : Nat} {l : List (Nat × Value)} {d : Nat} {ty : TypeId} {pos : String} {aft : Array Edge}
end
end Go.Proofs.YtdcbjedkddgfkaaGreatDoor
