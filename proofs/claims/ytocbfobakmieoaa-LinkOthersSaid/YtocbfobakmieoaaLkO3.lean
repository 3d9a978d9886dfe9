/-
  LinkOthers: rows kept apart, and the tests of one event. No condition: plain lemmas.
-/
import Derived.Test.YtocbfobakmieoaaLkO2
import Derived.Test.YtocbfobakmieoaaVp
namespace Go.Proofs.Ytocbfobakmieoaa
set_option linter.unusedVariables false
set_option linter.unusedSimpArgs false
set_option linter.unusedSectionVars false
open Go.RowKit

/-! ### rows kept apart -/
def avB (g : Nat) (v : Value) (k : Nat) : Prop := k ≠ g ∧ ¬ ownF v k
def avB2 (g : Nat) (v v' : Value) (k : Nat) : Prop := k ≠ g ∧ ¬ ownF v k ∧ ¬ ownF v' k
def sepV (u v : Value) : Prop := ∀ k, ownF u k → ¬ ownF v k
theorem sepV.symm {u v : Value} (h : sepV u v) : sepV v u := fun k hv hu => h k hu hv
theorem sepV.alt {u u' v : Value} {m : Nat} (h : sepV u v) (hv : ∀ k, ownF v k → k < m) (al : u'.ownBlock = u.ownBlock ∨ u'.ownBlock = some m) : sepV u' v := by
  intro k hu hk
  unfold ownF at hu
  rcases al with al | al
  · exact h k (al.symm.trans hu) hk
  · rw [al] at hu
    have := Option.some.inj hu
    have := hv k hk
    omega
theorem sepV.of_low {w W : World} {b1 b2 e1 e2 s1 s2 n1 n2 : Nat} {u v : Value} {xs ys : List Value} (hu : w.ownsRow b1 e1 s1 u n1 xs) (hv : W.ownsRow b2 e2 s2 v n2 ys) (hb : w.heap.size ≤ b2) : sepV u v := by
  intro k h1 h2
  have := ownF_lt hu k h1
  have := ownF_ge hv k h2
  omega
section
variable {α : Type} {size : Nat} {R : World → List Value → α → Prop} {l : List α} {w W : World} {v u u' : Value} {S S' : Nat → Prop} {g b e s n lo m : Nat} {xs : List Value}
theorem SliceOf.and_ (h : SliceOf S size R w v l) (h' : SliceOf S' size R w v l) : SliceOf (fun k => S k ∧ S' k) size R w v l := by
  obtain ⟨A, cap, xs, e, h1, h2, h3, h4⟩ := h
  obtain ⟨A', cap', xs', e', h1', h2', h3', h4'⟩ := h'
  rw [e] at e'
  cases e'
  refine ⟨A, cap, xs, e, h1, h2, ⟨h3.1, fun hn => ?_⟩, h4⟩
  obtain ⟨ad, e1, hg, hlt, hc⟩ := h3.2 hn
  obtain ⟨ad', e1', hg', _, _⟩ := h3'.2 hn
  rw [e1] at e1'
  cases e1'
  exact ⟨ad, e1, ⟨hg, hg'⟩, hlt, hc⟩
theorem SliceOf.ge_low {lo' : Nat} (h : SliceOf (geB lo) size R w v l) (hl : lo' ≤ lo) : SliceOf (geB lo') size R w v l := h.sup fun _ hk => Nat.le_trans hl hk
theorem SliceOf.av_old (h : SliceOf S size R w v l) (hg : w.heap.size ≤ g) (hu : W.ownsRow b e s u n xs) (hb : w.heap.size ≤ b) : SliceOf (avB g u) size R w v l :=
  h.ltB.sup fun k (hk : k < w.heap.size) => ⟨by omega, fun hf => by have := ownF_ge hu k hf; omega⟩
theorem SliceOf.av_mid (h : SliceOf (geB lo) size R w v l) (hg : g < m) (hm : m ≤ lo) (hu : W.ownsRow b e s u n xs) (hb : w.heap.size ≤ b) : SliceOf (avB g u) size R w v l :=
  (h.and_ h.ltB).sup fun k ⟨(h1 : lo ≤ k), (h2 : k < w.heap.size)⟩ => ⟨by omega, fun hf => by have := ownF_ge hu k hf; omega⟩
theorem SliceOf.av_new (h : SliceOf (geB lo) size R w v l) (hg : g < m) (hm : m ≤ lo) (hu : W.ownsRow b e s u n xs) (hb : W.heap.size ≤ lo) : SliceOf (avB g u) size R w v l :=
  h.sup fun k (h1 : lo ≤ k) => ⟨by omega, fun hf => by have := ownF_lt hu k hf; omega⟩
theorem SliceOf.av_alt (h : SliceOf (avB g u) size R w v l) (al : u'.ownBlock = u.ownBlock ∨ u'.ownBlock = some m) (hm : w.heap.size ≤ m) : SliceOf (avB2 g u u') size R w v l :=
  (h.and_ h.ltB).sup fun k ⟨h1, (h2 : k < w.heap.size)⟩ => ⟨h1.1, h1.2, fun hf => by
    unfold ownF at hf
    rcases al with al | al
    · exact h1.2 (al.symm.trans hf)
    · rw [al] at hf
      have := Option.some.inj hf
      omega⟩
theorem SliceOf.av_end (h : SliceOf (avB2 g u u') size R w v l) : SliceOf (avB g u') size R w v l := h.sup fun _ hk => ⟨hk.1, hk.2.2⟩
end
theorem i64_nat {n : Nat} (h : n ≤ 1000000) : I64 (n : Int) := by unfold I64; omega

namespace Lnk
variable {x y : Int} {n a : Air} {e : Ev}
theorem mine_pair (h : (((decide (e.k = 0) || decide (e.k = 4)) || decide (e.k = 5)) && betw x y ⟨e.a, e.b, []⟩) = true) : Mine x y n e e := by
  simp only [Bool.and_eq_true, Bool.or_eq_true, decide_eq_true_eq] at h
  exact .pair (by omega) h.2
theorem mine_msg {q : Nat} {m : Msg} (h : ((((decide (e.k = 1) || decide (e.k = 2)) || decide (e.k = 3)) && decide (0 ≤ e.a)) && decide (e.a < ((n.ms.length : Nat) : Int))) = true) (hq : e.a = (q : Int)) (hm : n.ms[q]? = some m) (hb : betw x y m = true) :
    Mine x y n e ⟨e.k, ((List.filter (betw x y) (List.take q n.ms)).length : Int), e.b, e.t⟩ := by
  simp only [Bool.and_eq_true, Bool.or_eq_true, decide_eq_true_eq] at h
  exact .msg (by omega) q m hq hm hb
theorem not_msg {q : Nat} {m : Msg} (h : ((((decide (e.k = 1) || decide (e.k = 2)) || decide (e.k = 3)) && decide (0 ≤ e.a)) && decide (e.a < ((n.ms.length : Nat) : Int))) = true) (hq : e.a = (q : Int)) (hm : n.ms[q]? = some m) (hb : betw x y m = false) :
    Not x y n e := by
  simp only [Bool.and_eq_true, Bool.or_eq_true, decide_eq_true_eq] at h
  exact .msg (by omega) q m hq hm hb
theorem not_pair (h : ((((decide (e.k = 1) || decide (e.k = 2)) || decide (e.k = 3)) && decide (0 ≤ e.a)) && decide (e.a < ((n.ms.length : Nat) : Int))) = false) (h2 : (((decide (e.k = 0) || decide (e.k = 4)) || decide (e.k = 5)) && betw x y ⟨e.a, e.b, []⟩) = false) :
    Not x y n e := by
  rw [← Bool.not_eq_true] at h h2
  simp only [Bool.and_eq_true, Bool.or_eq_true, decide_eq_true_eq] at h h2
  by_cases k1 : e.k = 0 ∨ e.k = 4 ∨ e.k = 5
  · refine .pair k1 ?_
    cases hb : betw x y ⟨e.a, e.b, []⟩ with
    | false => rfl
    | true => exact absurd ⟨by omega, hb⟩ h2
  · by_cases k2 : e.k = 1 ∨ e.k = 2 ∨ e.k = 3
    · exact .far k2 (by omega)
    · exact .other k1 k2
theorem sim_start (h : right a = true) : Sim x y a ⟨a.ms.filter (betw x y), a.cs⟩ := by
  refine ⟨rfl, rfl, h, ?_⟩
  rw [right_iff] at h ⊢
  exact ⟨h.1, h.2.1, Nat.le_trans (List.length_filter_le _ _) h.2.2.1, fun m hm => h.2.2.2 m (List.mem_filter.1 hm).1⟩
theorem came_len : (do_ n e).2.1.length ≤ 1 := by
  unfold do_
  repeat' split
  all_goals simp
theorem next_cuts : (next n e).cs.length ≤ n.cs.length + 1 := by
  have := runs_cuts n [e]
  simpa [runs] using this
end Lnk
end Go.Proofs.Ytocbfobakmieoaa
