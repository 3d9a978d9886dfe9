/-
  strings.Builder in memory, for the calculus of small steps. Condition: Go's own limit on a builder's length.
-/
import Derived.Test.YtdcbjedkddgfkaaDoorWW2
namespace Go.Proofs.YtdcbjedkddgfkaaDoor
set_option linter.unusedVariables false
set_option linter.unusedSimpArgs false
set_option linter.unusedSectionVars false
open Go.RowKit
/-- a builder that holds the bytes t, in blocks from B on -/
def Bld (B g : Nat) (t : Str) (w : World) : Prop := Lib.IsBuilder 124 5 B g (Lib.byteCells t) w
theorem bldAt_k {B g : Nat} {p : Value} {bs : List Value} {w w' : World} (h : Lib.BuilderAt 124 5 B g p bs w) (o : Only NoF w w') : Lib.BuilderAt 124 5 B g p bs w' := by
 have hlt := h.lt
 obtain ⟨hB, v, hb, hown, hne⟩ := h
 exact ⟨hB, v, (o.block g hlt id).trans hb, ow_k hown o, hne⟩
theorem Bld.k {B g : Nat} {t : Str} {w w' : World} (h : Bld B g t w) (o : Only NoF w w') : Bld B g t w' := h.imp (bldAt_k · o) (bldAt_k · o)
theorem Bld.new {B g : Nat} {w' : World} (hB : B ≤ g) (hb : Blk w' g 124 [.pointer none, .slice none 0 0].toArray) : Bld B g [] w' :=
 .inl ⟨hB, .slice none 0 0, hb, World.ownsRow_nil _ _ _ _, fun h => by cases h⟩
theorem below_geB {B : Nat} {w w' : World} (h : Below B w w') : Only (geB B) w w' := ⟨h.os, h.tape, h.output, h.size, fun i hi hn => h.block i (Nat.lt_of_not_le hn)⟩
def WsTo (B g : Nat) (t u : Str) (w : World) (e : Ending) (w' : World) : Prop := e = .returned (.tuple #[.int .i64 ((u.length : Nat) : Int), .nilIface]) ∧ Bld B g (t ++ u) w' ∧ Only (geB B) w w'
theorem ws_v {B g : Nat} {t : Str} {w : World} (h : Bld B g t w) (u : Str) (hl : t.length + u.length ≤ 140737488355328) (hB : B ≤ w.heap.size) : Calls Tryd.prog 89 #[.pointer (some ⟨g, 0, none⟩), strV u] w (WsTo B g t u w) := by
 refine (Tryd.Builder_WriteString B g (Lib.byteCells t) ⟨u.toArray⟩ w h (by rw [Lib.byteCells_length, strV_size]; exact hl) hB).mono ?_
 rintro e w' ⟨rfl, h1, h2⟩
 refine ⟨rfl, .inr ?_, below_geB h2⟩
 rw [Lib.byteCells_append]
 exact h1
def BsTo (B : Nat) (t : Str) (w : World) (e : Ending) (w' : World) : Prop := e = .returned (strV t) ∧ Only (geB B) w w'
theorem bs_v {B g : Nat} {t : Str} {w : World} (h : Bld B g t w) (hB : B ≤ w.heap.size) : Calls Tryd.prog 90 #[.pointer (some ⟨g, 0, none⟩)] w (BsTo B t w) := by
 refine (Tryd.Builder_String_any B g t w h hB).mono ?_
 rintro e w' ⟨rfl, h2⟩
 exact ⟨rfl, below_geB h2⟩
theorem flat_take_le {α : Type} (f : α → Str) (l : List α) (k : Nat) : ((l.take k).flatMap f).length ≤ (l.flatMap f).length := by
 conv => rhs; rw [← List.take_append_drop k l, List.flatMap_append, List.length_append]
 omega
theorem flat_step {α : Type} (f : α → Str) {l : List α} {k : Nat} {x : α} (h : l[k]? = some x) : (l.take (k + 1)).flatMap f = (l.take k).flatMap f ++ f x := by
 rw [take_succ_get h, List.flatMap_append]; simp
end Go.Proofs.YtdcbjedkddgfkaaDoor
