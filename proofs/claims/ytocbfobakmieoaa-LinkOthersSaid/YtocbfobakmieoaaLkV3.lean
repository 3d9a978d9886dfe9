/-
  Built values of the link's types, an Air of owned rows, and the plain words of the reference. No condition.
-/
import Derived.Test.YtocbfobakmieoaaLkV2
import Derived.Test.YtocbfobakmieoaaLnkQ
namespace Go.Proofs.Ytocbfobakmieoaa
set_option linter.unusedVariables false
set_option linter.unusedSimpArgs false
set_option linter.unusedSectionVars false
open Go.RowKit

theorem build_Air0 (w : World) : (Instr.build 25 #[]).run Try.prog w = .ok (.agg #[.slice none 0 0, .slice none 0 0]) w := by kernel_rfl
theorem build_Air (A1 : Option Addr) (n1 c1 : Nat) (A2 : Option Addr) (n2 c2 : Nat) (w : World) : (Instr.build 25 #[(0, .slice A1 n1 c1), (1, .slice A2 n2 c2)]).run Try.prog w = .ok (.agg #[.slice A1 n1 c1, .slice A2 n2 c2]) w := by kernel_rfl
theorem build_Pr (x y : Int) (w : World) : (Instr.build 60 #[(0, .int .i64 x), (1, .int .i64 y)]).run Try.prog w = .ok (.agg #[.int .i64 x, .int .i64 y]) w := by kernel_rfl
theorem build_Msg (x y : Int) (t : Str) (w : World) : (Instr.build 27 #[(0, .int .i64 x), (1, .int .i64 y), (2, strV t)]).run Try.prog w = .ok (.agg #[.int .i64 x, .int .i64 y, strV t]) w := by kernel_rfl
theorem build_Msg2 (x y : Int) (w : World) : (Instr.build 27 #[(0, .int .i64 x), (1, .int .i64 y)]).run Try.prog w = .ok (.agg #[.int .i64 x, .int .i64 y, strV []]) w := by kernel_rfl
/-- an Air of owned rows and an errno -/
def AirO (w : World) (r : Air × Int) (e : Ending) (w' : World) : Prop :=
  ∃ A1 c1 A2 c2, e = .returned (.tuple #[.agg #[.slice A1 r.1.ms.length c1, .slice A2 r.1.cs.length c2], .int .i64 r.2]) ∧
    w'.ownsRow w.heap.size 27 3 (.slice A1 r.1.ms.length c1) r.1.ms.length (r.1.ms.flatMap KMsg.cells) ∧ w'.ownsRow w.heap.size 60 2 (.slice A2 r.1.cs.length c2) r.1.cs.length (r.1.cs.flatMap KPr.cells) ∧
    (∀ x ∈ r.1.ms, KMsg.ok x) ∧ (∀ x ∈ r.1.cs, KPr.ok x) ∧ Only NoF w w'
theorem AirO.to {w w' : World} {r : Air × Int} {e : Ending} (h : AirO w r e w') : AirT w r e w' := by
  obtain ⟨A1, c1, A2, c2, rfl, h1, h2, h3, h4, o⟩ := h
  exact ⟨A1, c1, A2, c2, rfl, Row.own KMsg h1 h3, Row.own KPr h2 h4, o⟩
def CopO (w : World) (r : Air) (e : Ending) (w' : World) : Prop :=
  ∃ A1 c1 A2 c2, e = .returned (.agg #[.slice A1 r.ms.length c1, .slice A2 r.cs.length c2]) ∧
    w'.ownsRow w.heap.size 27 3 (.slice A1 r.ms.length c1) r.ms.length (r.ms.flatMap KMsg.cells) ∧ w'.ownsRow w.heap.size 60 2 (.slice A2 r.cs.length c2) r.cs.length (r.cs.flatMap KPr.cells) ∧
    (∀ x ∈ r.ms, KMsg.ok x) ∧ (∀ x ∈ r.cs, KPr.ok x) ∧ Only NoF w w'
def DelO (w : World) (r : Air × Msg × Int) (e : Ending) (w' : World) : Prop :=
  ∃ A1 c1 A2 c2, e = .returned (.tuple #[.agg #[.slice A1 r.1.ms.length c1, .slice A2 r.1.cs.length c2], .agg #[.int .i64 r.2.1.a, .int .i64 r.2.1.b, strV r.2.1.t], .int .i64 r.2.2]) ∧
    w'.ownsRow w.heap.size 27 3 (.slice A1 r.1.ms.length c1) r.1.ms.length (r.1.ms.flatMap KMsg.cells) ∧ w'.ownsRow w.heap.size 60 2 (.slice A2 r.1.cs.length c2) r.1.cs.length (r.1.cs.flatMap KPr.cells) ∧
    (∀ x ∈ r.1.ms, KMsg.ok x) ∧ (∀ x ∈ r.1.cs, KPr.ok x) ∧ Only NoF w w'
namespace Lnk
def dropI {α : Type} (but : Int) (l : List α) : List α := if 0 ≤ but then l.eraseIdx but.toNat else l
theorem dropI_step {α : Type} {but : Int} {l : List α} {k : Nat} {x : α} (h : l[k]? = some x) : dropI but (l.take (k + 1)) = if (k : Int) = but then dropI but (l.take k) else dropI but (l.take k) ++ [x] := by
  obtain ⟨hk, rfl⟩ := List.getElem?_eq_some_iff.1 h
  rw [List.take_succ_eq_append_getElem hk]
  unfold dropI
  by_cases hb : 0 ≤ but
  · rw [if_pos hb, if_pos hb]
    by_cases e : (k : Int) = but
    · subst e
      have hl : (l.take k).length = k := by rw [List.length_take]; omega
      have h1 : (l.take k).eraseIdx k = l.take k := List.eraseIdx_of_length_le (by omega)
      have h2 : (l.take k ++ [l[k]]).eraseIdx k = l.take k := by
        rw [List.eraseIdx_append_of_length_le (by omega), hl, Nat.sub_self]
        simp
      rw [if_pos rfl, Int.toNat_natCast, h1, h2]
    · rw [if_neg e]
      rcases Nat.lt_or_ge but.toNat k with h1 | h1
      · rw [List.eraseIdx_append_of_lt_length (by simp; omega)]
      · rw [List.eraseIdx_of_length_le (by simp; omega), List.eraseIdx_of_length_le (by simp; omega)]
  · rw [if_neg hb, if_neg hb, if_neg (by omega)]
theorem dropI_mem {α : Type} {but : Int} {l : List α} {x : α} (h : x ∈ dropI but l) : x ∈ l := by
  unfold dropI at h
  split at h
  · exact List.mem_of_mem_eraseIdx h
  · exact h
theorem dropI_len {α : Type} (but : Int) (l : List α) : (dropI but l).length ≤ l.length := by
  unfold dropI
  split
  · rw [List.length_eraseIdx]; split <;> omega
  · exact Nat.le_refl _
end Lnk
end Go.Proofs.Ytocbfobakmieoaa
