/-
  Gossip: honest houses: what they know, as it lies in memory, and the plain law for it. No condition.
-/
import Derived.Test.YtdcbjedkddgfkaaGreatDoorGoL
import Derived.Test.YtdcbjedkddgfkaaGreatDoorGE
namespace Go.Proofs.YtdcbjedkddgfkaaGreatDoor
set_option linter.unusedVariables false
set_option linter.unusedSimpArgs false
set_option linter.unusedSectionVars false
open Go.RowKit
def SKr (F : Nat → Prop) (w : World) (k : Nat) : Prop := ¬ F k ∧ k < w.heap.size
section
variable {F F' G : Nat → Prop} {w w' : World} {v : Value} {l : List NM} {KL : List NR} {x : NR} {q : Nat} {m : NM}
theorem SKr.mv (o : Only G w w') (k : Nat) (h : SKr F w k) : SKr F w' k := ⟨h.1, Nat.lt_of_lt_of_le h.2 (size_only o)⟩
theorem SKr.mvA (o : Only G w w') (hF : ∀ k, F' k → F k ∨ w.heap.size ≤ k) (k : Nat) (h : SKr F w k) : SKr F' w' k :=
 ⟨fun hf => (hF k hf).elim h.1 fun h2 => absurd h.2 (Nat.not_lt.2 h2), Nat.lt_of_lt_of_le h.2 (size_only o)⟩
theorem OkNs.mv (h : OkNs (SKr F w) w l) (o : Only G w w') (hG : ∀ k, G k → F k) : OkNs (SKr F w') w' l := (h.only o fun k hk hg => hk.1 (hG k hg)).sup (SKr.mv o)
theorem OkNs.mvA (h : OkNs (SKr F w) w l) (o : Only G w w') (hG : ∀ k, G k → F k) (hF : ∀ k, F' k → F k ∨ w.heap.size ≤ k) : OkNs (SKr F' w') w' l := (h.only o fun k hk hg => hk.1 (hG k hg)).sup (SKr.mvA o hF)
theorem okN.new {b : Nat} (h : okN (geB b) w m) (hF : ∀ k, F k → k < b) : okN (SKr F w) w m :=
 h.lt3.sup fun k hk => ⟨fun hf => absurd (hF k hf) (Nat.not_lt.2 hk.1), hk.2⟩
def FK (vK vD vA : Value) (k : Nat) : Prop := ownF vK k ∨ ownF vD k ∨ ownF vA k
theorem FK.k {vK vD vA : Value} (k : Nat) (h : ownF vK k) : FK vK vD vA k := .inl h
theorem FK.d {vK vD vA : Value} (k : Nat) (h : ownF vD k) : FK vK vD vA k := .inr (.inl h)
theorem FK.a {vK vD vA : Value} (k : Nat) (h : ownF vA k) : FK vK vD vA k := .inr (.inr h)
theorem FK.lt {vK vD vA : Value} {b : Nat} (h1 : ∀ k, ownF vK k → k < b) (h2 : ∀ k, ownF vD k → k < b) (h3 : ∀ k, ownF vA k → k < b) : ∀ k, FK vK vD vA k → k < b := fun k h => h.elim (h1 k) fun h => h.elim (h2 k) (h3 k)
end
/-! ### the plain law, for what lies in memory -/
section
variable {KL : List NR} {D : List Int} {L a P N : List NM} {i q f : Nat} {r s X : NR} {e e2 h : Int} {n : NM}
end
end Go.Proofs.YtdcbjedkddgfkaaGreatDoor
