/-
  The seal's notes: in memory, and what the chapter's functions compute of them. No condition.
-/
import Derived.Test.YtgmnoianhonihaaDoorWVal
namespace Go.Proofs.YtgmnoianhonihaaDoor
set_option linter.unusedVariables false
set_option linter.unusedSimpArgs false
set_option linter.unusedSectionVars false
open Go.RowKit

structure RM where
  h : Int
  n : Int
deriving DecidableEq
/-- a note, its needs as they lie -/
structure NM where
  h : Int
  n : Int
  d : Int
  A : Option Addr
  l : List RM
  c : Nat
  s : Str
def KRef : Row RM := ⟨2, fun m => [.int .i64 m.h, .int .i64 m.n], fun m => I64 m.h ∧ I64 m.n, fun _ => rfl, by decide, fun x u hu => by
  simp at hu
  rcases hu with rfl | rfl <;> rfl⟩
abbrev RefsV (w : World) (v : Value) (l : List RM) : Prop := SliceOf AllB 2 KRef.R w v l
def KNote (w : World) : Row NM := ⟨5, fun m => [.int .i64 m.h, .int .i64 m.n, .int .i64 m.d, .slice m.A m.l.length m.c, strV m.s],
  fun m => I64 m.h ∧ I64 m.n ∧ I64 m.d ∧ RefsV w (.slice m.A m.l.length m.c) m.l ∧ m.s.length ≤ maxLen, fun _ => rfl, by decide, fun x u hu => by
  simp at hu
  rcases hu with rfl | rfl | rfl | rfl | rfl <;> rfl⟩
abbrev NotesV (w0 w : World) (v : Value) (l : List NM) : Prop := SliceOf AllB 5 (KNote w0).R w v l
theorem elemRef : ElemIs Tryd.prog 52 71 2 16 := by
  obtain ⟨i, h1, h2, h3, h4⟩ := info_parts (show (Tryd.prog.info? 71).map (fun i => (i.zero, i.size, i.bytes)) = some (some (.agg #[.int .i64 0, .int .i64 0]), 2, 16) by kernel_rfl)
  exact ⟨Tryd.underlying52, i, _, h1, h2, h3, h4, rfl⟩
theorem elemNote : ElemIs Tryd.prog 51 54 5 64 := by
  obtain ⟨i, h1, h2, h3, h4⟩ := info_parts (show (Tryd.prog.info? 54).map (fun i => (i.zero, i.size, i.bytes)) = some (some (.agg #[.int .i64 0, .int .i64 0, .int .i64 0, .slice none 0 0, strV []]), 5, 64) by kernel_rfl)
  exact ⟨Tryd.underlying51, i, _, h1, h2, h3, h4, rfl⟩
theorem build_Ref1 (h : Int) (w : World) : (Instr.build 71 #[(0, .int .i64 h)]).run Tryd.prog w = .ok (.agg #[.int .i64 h, .int .i64 0]) w := by kernel_rfl
theorem build_Ref2 (h n : Int) (w : World) : (Instr.build 71 #[(0, .int .i64 h), (1, .int .i64 n)]).run Tryd.prog w = .ok (.agg #[.int .i64 h, .int .i64 n]) w := by kernel_rfl

/-! ### what is computed -/
def bel (n k : Int) : Bool := decide (0 ≤ n) && decide (n < k)
def kn (h n : Int) : Bool := bel h 400 && bel n 400
def refGt (h n ph pn : Int) : Bool := decide (ph < h) || (decide (h = ph) && decide (pn < n))
def refOk (h n : Int) (p r : RM) : Bool := !(((!kn r.h r.n) || (!refGt r.h r.n p.h p.n)) || (decide (r.h = h) && decide (n ≤ r.n)))
def refsOk (h n : Int) : RM → List RM → Bool
  | _, [] => true
  | p, r :: l => refOk h n p r && refsOk h n r l
def headBad (m : NM) : Bool := ((((!kn m.h m.n) || (!bel m.d 100001)) || decide ((8000 : Int) < ((m.s.length : Nat) : Int))) || decide ((40 : Int) < ((m.l.length : Nat) : Int)))
def right (m : NM) : Bool := !headBad m && refsOk m.h m.n ⟨-1, 0⟩ m.l
theorem refsOk_drop {h n : Int} {p r : RM} {l : List RM} {k : Nat} (hr : l[k]? = some r) : refsOk h n p (l.drop k) = (refOk h n p r && refsOk h n r (l.drop (k + 1))) := by
  obtain ⟨hk, rfl⟩ := List.getElem?_eq_some_iff.1 hr
  rw [List.drop_eq_getElem_cons hk]; rfl
theorem right_bad {m : NM} (h : headBad m = true) : right m = false := by unfold right; rw [h]; rfl
theorem right_of {m : NM} {p : RM} {k : Nat} {b : Bool} (h : headBad m = false) (hk : refsOk m.h m.n ⟨-1, 0⟩ m.l = refsOk m.h m.n p (m.l.drop k)) (hb : refsOk m.h m.n p (m.l.drop k) = b) : right m = b := by
  unfold right; rw [h, hk, hb]; rfl
/-- notes that spell the same -/
def same (m m2 : NM) : Bool := decide (m.h = m2.h) && decide (m.n = m2.n) && decide (m.d = m2.d) && decide (m.l = m2.l) && decide (m.s = m2.s)
def convicts (m m2 : NM) : Bool := right m && right m2 && decide (m.h = m2.h) && decide (m.n = m2.n) && !same m m2
end Go.Proofs.YtgmnoianhonihaaDoor
