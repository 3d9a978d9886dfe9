/-
  The order of the cuts, index by index. No condition: plain lemmas.
-/
import Derived.Test.YtocbfobakmieoaaLnk
namespace Go.Proofs.Ytocbfobakmieoaa
set_option linter.unusedVariables false
set_option linter.unusedSimpArgs false
set_option linter.unusedSectionVars false
namespace Lnk

def cutsOk (l : List Pr) : Bool := l.all okCut && sorted l
theorem right_eq (a : Air) : right a = (cutsOk a.cs && decide (a.ms.length ≤ 1000) && a.ms.all rightM) := rfl
def OkAt (l : List Pr) (i : Nat) (h : i < l.length) : Prop := okCut l[i] = true ∧ (∀ j (hj : j < l.length), i = j + 1 → lt l[j] l[i] = true)
theorem sorted_at : ∀ {l : List Pr}, sorted l = true ↔ ∀ i (h : i + 1 < l.length), lt l[i] l[i + 1] = true
  | [] => by simp [sorted]
  | [_] => by simp [sorted]
  | p :: q :: l => by
    rw [sorted, Bool.and_eq_true, sorted_at (l := q :: l)]
    constructor
    · rintro ⟨h1, h2⟩ i hi
      cases i with
      | zero => exact h1
      | succ i => exact h2 i (by simpa using hi)
    · intro h
      exact ⟨h 0 (by simp), fun i hi => h (i + 1) (by simpa using hi)⟩
theorem cutsOk_iff {l : List Pr} : cutsOk l = true ↔ ∀ i (h : i < l.length), OkAt l i h := by
  unfold cutsOk
  rw [Bool.and_eq_true, sorted_at, List.all_eq_true]
  constructor
  · rintro ⟨h1, h2⟩ i hi
    refine ⟨h1 _ (List.getElem_mem hi), ?_⟩
    rintro j hj rfl
    exact h2 j hi
  · intro h
    refine ⟨fun c hc => ?_, fun i hi => (h (i + 1) hi).2 i (by omega) rfl⟩
    obtain ⟨i, hi, rfl⟩ := List.getElem_of_mem hc
    exact (h i hi).1
theorem cutsOk_bad {l : List Pr} {i : Nat} (h : i < l.length) (hb : ¬ OkAt l i h) : cutsOk l = false := by
  cases hc : cutsOk l with
  | false => rfl
  | true => exact absurd (cutsOk_iff.1 hc i h) hb
end Lnk
end Go.Proofs.Ytocbfobakmieoaa
