/-
  The wire's laws: kind, number, small, walked. No condition but the listed variables.
-/
import Derived.Test.YtlnadcihnfppaaaDoorWW4
import Derived.Test.YtlnadcihnfppaaaDoorWir4
namespace Go.Proofs.YtlnadcihnfppaaaDoor
set_option linter.unusedVariables false
set_option linter.unusedSimpArgs false
set_option linter.unusedSectionVars false
open Go.RowKit

section
variable {P : Program} {w : World} {n : Nat} {l : List (Nat × Value)} {a : Act} {dst : Option Tmp} {ty : TypeId} {pos : String} {aft : Array Edge} {g : Option (Nat × Bool)} {x y : Operand}
theorem r_remI {p q : Int} {t yt : TypeId} (H : Fr n l a) (hx : ev l x = some (.int .i64 p)) (hy : ev l y = some (.int .i64 q)) (hq : q ≠ 0) : (execOp a.eval ⟨dst, .binOp .rem t x y yt, ty, pos, aft, g⟩).run P w = .ok (.value (.int .i64 (Int.tmod p q))) w := by
  simp [execOp, H.eval hx, H.eval hy, eqGuard, binOp, Op.intDiv, hq]
theorem r_quoI {p q : Int} {t yt : TypeId} (H : Fr n l a) (hx : ev l x = some (.int .i64 p)) (hy : ev l y = some (.int .i64 q)) (hq : q ≠ 0) (hb : I64 (Int.tdiv p q)) : (execOp a.eval ⟨dst, .binOp .quo t x y yt, ty, pos, aft, g⟩).run P w = .ok (.value (.int .i64 (Int.tdiv p q))) w := by
  have : IntKind.i64.wrap (Int.tdiv p q) = Int.tdiv p q := IntWalk.i64_in _ hb
  simp [execOp, H.eval hx, H.eval hy, eqGuard, binOp, Op.intDiv, hq, this]
theorem eq_bool {t : TypeId} {b c : Bool} (hu : P.underlying t = some .bool) : (Op.equal t (.bool b) (.bool c)).run P w = .ok (b == c) w := by
  have h : ∀ d, (Op.equalIn (d + 1) t (.bool b) (.bool c)).run P w = .ok (b == c) w := fun d => by
    simp only [Op.equalIn, Sem.run_bind, run_underlying hu, Result.andThen_ok, Sem.run_pure]
  exact h 9999
theorem r_eqB {t yt : TypeId} {b c : Bool} (hu : P.underlying t = some .bool) (H : Fr n l a) (hx : ev l x = some (.bool b)) (hy : ev l y = some (.bool c)) : (execOp a.eval ⟨dst, .binOp .eql t x y yt, ty, pos, aft, g⟩).run P w = .ok (.value (.bool (decide (b = c)))) w := by
  have hg : (eqGuard .eql t x y (.bool b) (.bool c)).run P w = .ok () w := by simp [eqGuard]
  have e : (b == c) = decide (b = c) := by cases b <;> cases c <;> rfl
  simp only [execOp, H.eval hx, H.eval hy, Sem.run_bind, hg, Result.andThen_ok, binOp, eq_bool hu, Sem.run_pure, e]
end
theorem fix_eq {P : Program} {f : FuncId} {vs : Array Value} {v v' : Value} {w : World} (h : v = v') (hc : Calls P f vs w (Fix v w)) : Calls P f vs w (Fix v' w) := h ▸ hc
theorem rd_eq {P : Program} {f : FuncId} {vs : Array Value} {v v' : Value} {s s' : Wr.Rd} {g : Nat} {w : World} (h : v = v') (h2 : s = s') (hc : Calls P f vs w (RdTo g v s w)) : Calls P f vs w (RdTo g v' s' w) := by subst h h2; exact hc
theorem it0 : Lib.itoa 0 = [48] := by unfold Lib.itoa; rw [if_neg (by decide), dec_small (by decide)]; decide
theorem it1 : Lib.itoa 1 = [49] := by unfold Lib.itoa; rw [if_neg (by decide), dec_small (by decide)]; decide
theorem it2 : Lib.itoa 2 = [50] := by unfold Lib.itoa; rw [if_neg (by decide), dec_small (by decide)]; decide
theorem it3 : Lib.itoa 3 = [51] := by unfold Lib.itoa; rw [if_neg (by decide), dec_small (by decide)]; decide
theorem it7 : Lib.itoa 7 = [55] := by unfold Lib.itoa; rw [if_neg (by decide), dec_small (by decide)]; decide
theorem itm1 : Lib.itoa (-1) = [45, 49] := by unfold Lib.itoa; rw [if_pos (by decide), dec_small (by decide)]; decide
theorem itm7 : Lib.itoa (-7) = [45, 55] := by unfold Lib.itoa; rw [if_pos (by decide), dec_small (by decide)]; decide
theorem it300 : Lib.itoa 300 = [51, 48, 48] := by unfold Lib.itoa; rw [if_neg (by decide), show (300 : Int).toNat = 300 from rfl, dec_big (by decide), show 300 / 10 = 30 from rfl, dec_big (by decide), show 30 / 10 = 3 from rfl, dec_small (by decide)]; decide
theorem sm1 : Wr.numE 0 = [48, 59] := by unfold Wr.numE Wr.intE; rw [if_neg (by decide), it0]; rfl
theorem sm2 : Wr.numE 300 = [51, 48, 48, 59] := by unfold Wr.numE Wr.intE; rw [if_neg (by decide), it300]; rfl
theorem sm3 : Wr.numE (-1) = [] := by unfold Wr.numE; rw [if_pos (by decide)]
theorem sm4 : Wr.intE (-7) = [45, 55, 59] := by unfold Wr.intE; rw [itm7]; rfl
theorem sm5 : Wr.intE 7 = [55, 59] := by unfold Wr.intE; rw [it7]; rfl
theorem sm6 : Wr.textE [97, 44, 98] = [51, 58, 97, 44, 98, 44] := by unfold Wr.textE; rw [show ((([97, 44, 98] : Str).length : Nat) : Int) = 3 from rfl, it3]; rfl
theorem sm7b : List.flatMap Wr.intE [1, (-1)] = [49, 59, 45, 49, 59] := by simp only [List.flatMap_cons, List.flatMap_nil, Wr.intE]; rw [it1, itm1]; rfl
theorem sm7 : Wr.numsE [1, (-1)] = [50, 91, 49, 59, 45, 49, 59, 93] := by unfold Wr.numsE Wr.listE; rw [sm7b, show ((([1, (-1)] : List Int).length : Nat) : Int) = 2 from rfl, it2]; rfl
theorem sm8 : Wr.textsE [] = [48, 91, 93] := by unfold Wr.textsE Wr.listE; rw [show ((([] : List Str).length : Nat) : Int) = 0 from rfl, it0]; rfl
theorem sm9 : Wr.num ⟨[48, 48, 55, 59], false⟩ = (0, Wr.failed) := by
  rcases Wr.number_cases ⟨[48, 48, 55, 59], false⟩ 59 0 with ⟨h, _⟩ | ⟨n, h0, _, _, h1, _⟩
  · exact h
  · exfalso
    have e : Wr.head 59 [48, 48, 55, 59] = [48, 48, 55] := by decide
    dsimp only at h1
    rw [e] at h1
    have h2 := atoi_itoa n h0.1 h0.2
    rw [← h1, show Lib.atoiAll [48, 48, 55] = .ok 7 by decide] at h2
    injection h2 with h2
    rw [← h2, it7] at h1
    cases h1
end Go.Proofs.YtlnadcihnfppaaaDoor
