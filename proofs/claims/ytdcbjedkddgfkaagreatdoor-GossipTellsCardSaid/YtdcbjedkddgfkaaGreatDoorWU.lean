/-
  The wire's reader: lists, walked. Condition: at most 1,000,000 bytes are left, and a reader that has failed has none.
  The wire's laws: kind, number, small, walked. No condition but the listed variables.
  The wire's values (of the law side): in memory, their encodings, what reads them. Condition of the bounds: those of 'few'.
  The wire's laws: few, write, SameNums, SameTexts, equal, walked. Condition of the bounds: those of 'few'.
-/
import Derived.Test.YtdcbjedkddgfkaaGreatDoorWX
namespace Go.Proofs.YtdcbjedkddgfkaaGreatDoor
set_option linter.unusedVariables false
set_option linter.unusedSimpArgs false
set_option linter.unusedSectionVars false
section
open Go.RowKit
theorem text_ok {s : Wr.Rd} (h : s.r.length ≤ 1000000000) : (Wr.text s).1.length ≤ maxLen := by
 have := Wr.text_val_len s
 unfold maxLen; omega
end
section
open Go.RowKit
section
variable {P : Program} {w : World} {n : Nat} {l : List (Nat × Value)} {a : Act} {dst : Option Tmp} {ty : TypeId} {pos : String} {aft : Array Edge} {g : Option (Nat × Bool)} {x y : Operand}
theorem r_remI {p q : Int} {t yt : TypeId} (H : Fr n l a) (hx : ev l x = some (.int .i64 p)) (hy : ev l y = some (.int .i64 q)) (hq : q ≠ 0) : (execOp a.eval ⟨dst, .binOp .rem t x y yt, ty, pos, aft, g⟩).run P w = .ok (.value (.int .i64 (Int.tmod p q))) w := by
 simp [execOp, H.eval hx, H.eval hy, eqGuard, binOp, Op.intDiv, hq]
theorem r_quoI {p q : Int} {t yt : TypeId} (H : Fr n l a) (hx : ev l x = some (.int .i64 p)) (hy : ev l y = some (.int .i64 q)) (hq : q ≠ 0) (hb : I64 (Int.tdiv p q)) : (execOp a.eval ⟨dst, .binOp .quo t x y yt, ty, pos, aft, g⟩).run P w = .ok (.value (.int .i64 (Int.tdiv p q))) w := by
 have : IntKind.i64.wrap (Int.tdiv p q) = Int.tdiv p q := IntWalk.i64_in _ hb
 simp [execOp, H.eval hx, H.eval hy, eqGuard, binOp, Op.intDiv, hq, this]
end
theorem fix_eq {P : Program} {f : FuncId} {vs : Array Value} {v v' : Value} {w : World} (h : v = v') (hc : Calls P f vs w (Fix v w)) : Calls P f vs w (Fix v' w) := h ▸ hc
end
section
open Go.RowKit
/-! ### written and read -/
theorem flat_len_le {α : Type} (f : α → Str) (b : Nat) : ∀ l : List α, (∀ x ∈ l, (f x).length ≤ b) → (l.flatMap f).length ≤ l.length * b
 | [], _ => by simp
 | x :: l, h => by
  have h1 := h x (by simp)
  have ih := flat_len_le f b l fun y hy => h y (by simp [hy])
  rw [List.flatMap_cons, List.length_append, List.length_cons, Nat.succ_mul]
  omega
end
section
open Go.RowKit
theorem same_step {α : Type} [DecidableEq α] {l l2 : List α} {k : Nat} {x y : α} (h1 : l[k]? = some x) (h2 : l2[k]? = some y) (h : l.take k = l2.take k) (he : (!decide (x = y)) = false) : l.take (k + 1) = l2.take (k + 1) := by
 rw [take_succ_get h1, take_succ_get h2, h, of_decide_eq_true (nt_f he)]
theorem same_ne {α : Type} [DecidableEq α] {l l2 : List α} {k : Nat} {x y : α} (h1 : l[k]? = some x) (h2 : l2[k]? = some y) (he : (!decide (x = y)) = true) : l ≠ l2 := by
 intro h
 rw [h, h2] at h1
 exact of_decide_eq_false (nt_t he) (Option.some.inj h1).symm
end
end Go.Proofs.YtdcbjedkddgfkaaGreatDoor
