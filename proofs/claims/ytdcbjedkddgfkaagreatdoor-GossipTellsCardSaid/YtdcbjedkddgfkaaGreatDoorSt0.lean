/-
  Notes in memory, their needs somewhere apart; a store into an element of an own row. No condition.
-/
import Derived.Test.YtdcbjedkddgfkaaGreatDoorSA
namespace Go.Proofs.YtdcbjedkddgfkaaGreatDoor
set_option linter.unusedVariables false
set_option linter.unusedSimpArgs false
set_option linter.unusedSectionVars false
open Go.RowKit
def KN0 : Row NM := ⟨5, fun m => [.int .i64 m.h, .int .i64 m.n, .int .i64 m.d, .slice m.A m.l.length m.c, strV m.s], fun _ => True, fun _ => rfl, by decide, fun x u hu => by
 simp at hu
 rcases hu with rfl | rfl | rfl | rfl | rfl <;> rfl⟩
/-- a note whose needs lie in S -/
def okN (S : Nat → Prop) (w : World) (m : NM) : Prop := I64 m.h ∧ I64 m.n ∧ I64 m.d ∧ SliceOf S 2 KRef.R w (.slice m.A m.l.length m.c) m.l ∧ m.s.length ≤ maxLen
def OkNs (S : Nat → Prop) (w : World) (l : List NM) : Prop := ∀ m ∈ l, okN S w m
section
variable {S S' F : Nat → Prop} {w w' : World} {m : NM} {l : List NM} {v : Value} {base : Nat}
theorem okN.note (h : okN S w m) : (KNote w).ok m := ⟨h.1, h.2.1, h.2.2.1, SliceOf.pl h.2.2.2.1, h.2.2.2.2⟩
theorem okN.only (h : okN S w m) (o : Only F w w') (hS : ∀ k, S k → ¬ F k) : okN S w' m := ⟨h.1, h.2.1, h.2.2.1, SliceOf.kp h.2.2.2.1 o hS (fun _ _ _ _ h => h), h.2.2.2.2⟩
theorem okN.sup (h : okN S w m) (hS : ∀ k, S k → S' k) : okN S' w m := ⟨h.1, h.2.1, h.2.2.1, SliceOf.sup h.2.2.2.1 hS, h.2.2.2.2⟩
theorem okN.of (h : (KNote w).ok m) (g : SliceOf S 2 KRef.R w (.slice m.A m.l.length m.c) m.l) : okN S w m := ⟨h.1, h.2.1, h.2.2.1, g, h.2.2.2.2⟩
theorem okN.pl (h : okN S w m) : okN AllB w m := okN.of h.note (SliceOf.pl h.2.2.2.1)
theorem OkNs.only (h : OkNs S w l) (o : Only F w w') (hS : ∀ k, S k → ¬ F k) : OkNs S w' l := fun m hm => (h m hm).only o hS
theorem OkNs.k (h : OkNs S w l) (o : Only NoF w w') : OkNs S w' l := h.only o fun _ _ h => h
theorem OkNs.sup (h : OkNs S w l) (hS : ∀ k, S k → S' k) : OkNs S' w l := fun m hm => (h m hm).sup hS
theorem OkNs.pl (h : OkNs S w l) : OkNs AllB w l := fun m hm => (h m hm).pl
theorem OkNs.nil : OkNs S w [] := fun m hm => by cases hm
theorem OkNs.app (h : OkNs S w l) (hm : okN S w m) : OkNs S w (l ++ [m]) := fun x hx => by
 rcases List.mem_append.1 hx with hx | hx
 · exact h x hx
 · rw [List.mem_singleton.1 hx]; exact hm
theorem own_alt {v v' : Value} {b k : Nat} (al : v'.ownBlock = v.ownBlock ∨ v'.ownBlock = some b) (h : ownF v' k) : ownF v k ∨ k = b := by
 unfold ownF at h ⊢
 rcases al with al | al
 · rw [al] at h; exact .inl h
 · rw [al] at h; exact .inr (Option.some.inj h).symm
/-- a row is appended to: what lies apart from it lies apart from what it has become -/
theorem okN.grow {v' : Value} {b : Nat} (h : okN S w m) (o : Only (ownF v) w w') (hS : ∀ k, S k → ¬ ownF v k) (hb : w.heap.size ≤ b) (al : v'.ownBlock = v.ownBlock ∨ v'.ownBlock = some b) : okN (fun k => S k ∧ ¬ ownF v' k) w' m := by
 refine okN.only (F := ownF v) ?_ o fun k hk => hS k hk.1
 obtain ⟨h1, h2, h3, ⟨A, cap, xs, e, q1, q2, q3, q4⟩, h5⟩ := h
 refine ⟨h1, h2, h3, ⟨A, cap, xs, e, q1, q2, ⟨q3.1, fun hn => ?_⟩, q4⟩, h5⟩
 obtain ⟨ad, e, hg, hlt, hc⟩ := q3.2 hn
 refine ⟨ad, e, ⟨hg, fun h => ?_⟩, hlt, hc⟩
 rcases own_alt al h with h | h
 · exact hS _ hg h
 · omega
theorem OkNs.grow {v' : Value} {b : Nat} (h : OkNs S w l) (o : Only (ownF v) w w') (hS : ∀ k, S k → ¬ ownF v k) (hb : w.heap.size ≤ b) (al : v'.ownBlock = v.ownBlock ∨ v'.ownBlock = some b) : OkNs (fun k => S k ∧ ¬ ownF v' k) w' l := fun m hm => (h m hm).grow o hS hb al
/-- what came up behind a row lies apart from it -/
theorem okN.behind {w0 : World} {e : TypeId} {n : Nat} {xs : List Value} (h : okN (geB w0.heap.size) w m) (hr : w0.ownsRow base e 5 v n xs) : okN (fun k => w0.heap.size ≤ k ∧ ¬ ownF v k) w m :=
 h.sup fun k hk => ⟨hk, fun hF => by have := ownF_lt hr k hF; unfold geB at hk; omega⟩
theorem nt_ok (h : NotesV w w v l) : OkNs AllB w l := fun m hm => by
 have := Row.oks (KNote w) h m hm
 exact okN.of this this.2.2.2.1
end
/-! ### a store into an element -/
end Go.Proofs.YtdcbjedkddgfkaaGreatDoor
