/-
  The link's rows element by element, for the calculus of small steps. No condition: plain lemmas.
-/
import Derived.Test.YtocbfobakmieoaaRow
import Derived.Test.YtocbfobakmieoaaLkRep
namespace Go.Proofs.Ytocbfobakmieoaa
set_option linter.unusedVariables false
set_option linter.unusedSimpArgs false
set_option linter.unusedSectionVars false
open Go.RowKit

def KMsg : Row Msg := ⟨3, fun m => [.int .i64 m.a, .int .i64 m.b, strV m.t], MsgOk, fun _ => rfl, by decide, fun x u hu => by
  simp at hu
  rcases hu with rfl | rfl | rfl <;> rfl⟩
def KPr : Row Pr := ⟨2, fun m => [.int .i64 m.x, .int .i64 m.y], fun m => I64 m.x ∧ I64 m.y, fun _ => rfl, by decide, fun x u hu => by
  simp at hu
  rcases hu with rfl | rfl <;> rfl⟩
def KEv : Row Ev := ⟨4, fun m => [.int .i64 m.k, .int .i64 m.a, .int .i64 m.b, strV m.t], fun m => I64 m.k ∧ I64 m.a ∧ I64 m.b ∧ m.t.length ≤ maxLen, fun _ => rfl, by decide, fun x u hu => by
  simp at hu
  rcases hu with rfl | rfl | rfl | rfl <;> rfl⟩
def KErr : Row Int := ⟨1, fun m => [.int .i64 m], I64, fun _ => rfl, by decide, fun x u hu => by
  simp at hu
  rcases hu with rfl; rfl⟩
section
variable {w : World} {A : Option Addr} {n c k : Nat}
/-- a slice's own three words -/
theorem Msgs.shape_ {v : Value} {l : List Msg} (h : Msgs w v l) : ∃ A c, v = .slice A l.length c ∧ l.length ≤ 9223372036854775807 := by
  obtain ⟨A, c, e, h1, h2⟩ := SliceOf.shape h
  unfold maxLen at h2
  exact ⟨A, c, e, by omega⟩
theorem Prs.shape_ {v : Value} {l : List Pr} (h : Prs w v l) : ∃ A c, v = .slice A l.length c ∧ l.length ≤ 9223372036854775807 := by
  obtain ⟨A, c, e, h1, h2⟩ := SliceOf.shape h
  unfold maxLen at h2
  exact ⟨A, c, e, by omega⟩
theorem Evs.shape_ {v : Value} {l : List Ev} (h : Evs w v l) : ∃ A c, v = .slice A l.length c ∧ l.length ≤ 9223372036854775807 := by
  obtain ⟨A, c, e, h1, h2⟩ := SliceOf.shape h
  unfold maxLen at h2
  exact ⟨A, c, e, by omega⟩
theorem Errs.shape_ {v : Value} {l : List Int} (h : Errs w v l) : ∃ A c, v = .slice A l.length c ∧ l.length ≤ 9223372036854775807 := by
  obtain ⟨A, c, e, h1, h2⟩ := SliceOf.shape h
  unfold maxLen at h2
  exact ⟨A, c, e, by omega⟩
end

theorem SliceOf.pl {α : Type} {size : Nat} {R : World → List Value → α → Prop} {l : List α} {w : World} {v : Value} {S : Nat → Prop} (h : SliceOf S size R w v l) : SliceOf AllB size R w v l := h.sup fun _ _ => trivial
theorem take_one {α : Type} {l : List α} {k : Nat} {x : α} (h : l[k]? = some x) : (l.drop k).take 1 = [x] := by
  obtain ⟨hk, rfl⟩ := List.getElem?_eq_some_iff.1 h
  rw [List.drop_eq_getElem_cons hk]
  rfl
theorem elemMsg : ElemIs Try.prog 22 27 3 32 := by
  obtain ⟨i, h1, h2, h3, h4⟩ := info_parts info_Msg
  exact ⟨Try.underlying22, i, _, h1, h2, h3, h4, rfl⟩
theorem elemPr : ElemIs Try.prog 23 60 2 16 := by
  obtain ⟨i, h1, h2, h3, h4⟩ := info_parts info_Pr
  exact ⟨Try.underlying23, i, _, h1, h2, h3, h4, rfl⟩
theorem elemEv : ElemIs Try.prog 28 48 4 40 := by
  obtain ⟨i, h1, h2, h3, h4⟩ := info_parts info_Ev
  exact ⟨Try.underlying28, i, _, h1, h2, h3, h4, rfl⟩
theorem elemErr : ElemIs Try.prog 40 32 1 8 := by
  obtain ⟨i, h1, h2, h3, h4⟩ := info_parts info_Errno
  exact ⟨Try.underlying40, i, _, h1, h2, h3, h4, rfl⟩
end Go.Proofs.Ytocbfobakmieoaa
