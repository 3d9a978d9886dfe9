/-
  The law side's event and between, walked. No condition.
-/
import Derived.Test.YtocbfobakmieoaaLkR3
namespace Go.Proofs.Ytocbfobakmieoaa
set_option linter.unusedVariables false
set_option linter.unusedSimpArgs false
set_option linter.unusedSectionVars false
open Go.RowKit

section
variable (w : World)
abbrev evV4 (e : Ev) : Value := .agg #[.int .i64 e.k, .int .i64 e.a, .int .i64 e.b, strV e.t]
set_option maxHeartbeats 400000 in
theorem l38event_c (k a b : Int) (t : Str) : Calls Try.prog 34 #[.int .i64 k, .int .i64 a, .int .i64 b, strV t] w fun e w' => e = .returned (evV4 ⟨k, a, b, t⟩) ∧ Only NoF w w' := by
  go_enter Try.func34, Try.ntmps34
  go_wp2
  refine bodyPost_ret (results_cell_row rfl _ _ w.heap.size 48 #[.int .i64 k, .int .i64 a, .int .i64 b, strV t] (0, 0) _ rfl (Blk.new w _ _) Try.underlying48 rfl (by kernel_rfl)) rfl ?_
  exact ⟨rfl, (Only.refl _ _).alloc _⟩

def betw (m : Msg) (x y : Int) : Bool := (m.a == x && m.b == y) || (m.a == y && m.b == x)
set_option maxHeartbeats 1000000 in
theorem l38between_c (m : Msg) (x y : Int) : Calls Try.prog 32 #[msgV m, .int .i64 x, .int .i64 y] w (BoolTo w (betw m x y)) := by
  have hbt : betw m x y = ((m.a == x && m.b == y) || (m.a == y && m.b == x)) := rfl
  have HBT := Lib.hid hbt
  clear hbt
  cases h1 : (m.a == x) <;> cases h2 : (m.b == y) <;> cases h3 : (m.a == y) <;> cases h4 : (m.b == x)
  all_goals
    rw [h1, h2, h3, h4] at HBT
    go_enter Try.func32, Try.ntmps32
    go_wp2
    go_ret
    exact ⟨by rw [HBT.out]; rfl, (Only.refl _ _).alloc _⟩
end
end Go.Proofs.Ytocbfobakmieoaa
