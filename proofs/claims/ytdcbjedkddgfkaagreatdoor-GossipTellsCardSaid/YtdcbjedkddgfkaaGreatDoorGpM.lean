/-
  Gossip: honest houses: what they know, as it lies in memory, and the plain law for it. No condition.
-/
import Derived.Test.YtdcbjedkddgfkaaGreatDoorGoL
import Derived.Test.YtdcbjedkddgfkaaGreatDoorGE
namespace Go.Proofs.YtdcbjedkddgfkaaGreatDoor
set_option linter.unusedVariables false
set_option linter.unusedSimpArgs false
set_option linter.unusedSectionVars false
open Go.RowKit
/-- a row of lists of notes: headers only -/
def KRr : Row NR := ⟨1, fun m => [.slice m.A m.l.length m.c], fun _ => True, fun _ => rfl, by decide, fun x u hu => by
 simp at hu
 subst hu; rfl⟩
def SKr (F : Nat → Prop) (w : World) (k : Nat) : Prop := ¬ F k ∧ k < w.heap.size
section
variable {F F' G : Nat → Prop} {w w' : World} {v : Value} {l : List NM} {KL : List NR} {x : NR} {q : Nat} {m : NM}
theorem SKr.mv (o : Only G w w') (k : Nat) (h : SKr F w k) : SKr F w' k := ⟨h.1, Nat.lt_of_lt_of_le h.2 (size_only o)⟩
theorem SKr.mvA (o : Only G w w') (hF : ∀ k, F' k → F k ∨ w.heap.size ≤ k) (k : Nat) (h : SKr F w k) : SKr F' w' k :=
 ⟨fun hf => (hF k hf).elim h.1 fun h2 => absurd h.2 (Nat.not_lt.2 h2), Nat.lt_of_lt_of_le h.2 (size_only o)⟩
def FK (vK vD vA : Value) (k : Nat) : Prop := ownF vK k ∨ ownF vD k ∨ ownF vA k
theorem FK.k {vK vD vA : Value} (k : Nat) (h : ownF vK k) : FK vK vD vA k := .inl h
theorem FK.d {vK vD vA : Value} (k : Nat) (h : ownF vD k) : FK vK vD vA k := .inr (.inl h)
theorem FK.a {vK vD vA : Value} (k : Nat) (h : ownF vA k) : FK vK vD vA k := .inr (.inr h)
end
/-! ### the plain law, for what lies in memory -/
section
variable {KL : List NR} {D : List Int} {L a P N : List NM} {i q f : Nat} {r s X : NR} {e e2 h : Int} {n : NM}
end
end Go.Proofs.YtdcbjedkddgfkaaGreatDoor
