/-
  The link's rows element by element, for the calculus of small steps. No condition: plain lemmas.
-/
import Derived.Test.YtocbfobakmieoaaVm
import Derived.Test.YtocbfobakmieoaaLkRep
namespace Go.Proofs.Ytocbfobakmieoaa
set_option linter.unusedVariables false
set_option linter.unusedSimpArgs false
set_option linter.unusedSectionVars false
open Go.RowKit

theorem ca_of {W : World} {b off size k : Nat} {cs : List Value} (h : ∀ j u, cs[j]? = some u → W.cell? ⟨b, off + k * size + j, none⟩ = some u) : CA W (eA (some ⟨b, off, none⟩) size k) cs := by
  intro j u hu
  have e : (eA (some ⟨b, off, none⟩) size k).add j = ⟨b, off + k * size + j, none⟩ := by
    unfold eA
    rw [Option.getD_some, add_of_add, Addr.add_lit, Nat.add_assoc]
  rw [e]
  exact h j u hu
section
variable {w : World} {A : Option Addr} {n c k : Nat}
theorem Msgs.ce {l : List Msg} {m : Msg} (h : Msgs w (.slice A n c) l) (hm : l[k]? = some m) : ∀ W, Only NoF w W → CA W (eA A 3 k) [.int .i64 m.a, .int .i64 m.b, strV m.t] := by
  obtain ⟨hk, rfl⟩ := List.getElem?_eq_some_iff.1 hm
  obtain ⟨A', cap, e, _, _, hf⟩ := Msgs.form h
  cases e
  obtain ⟨b, off, rfl, hok, hc⟩ := hf k hk
  refine fun W o => ca_of fun j u hu => ?_
  obtain ⟨c0, c1, c2⟩ := hc W o
  match j, hu with
  | 0, hu => cases hu; exact c0
  | 1, hu => cases hu; exact c1
  | 2, hu => cases hu; exact c2
theorem Msgs.el {l : List Msg} (h : Msgs w (.slice A n c) l) (hk : k < l.length) : ∃ m, l[k]? = some m ∧ MsgOk m ∧ A.isSome = true ∧ ∀ W, Only NoF w W → CA W (eA A 3 k) [.int .i64 m.a, .int .i64 m.b, strV m.t] := by
  refine ⟨l[k], List.getElem?_eq_getElem hk, ?_, ?_, h.ce (List.getElem?_eq_getElem hk)⟩
  all_goals
    obtain ⟨A', cap, e, _, _, hf⟩ := Msgs.form h
    cases e
    obtain ⟨b, off, rfl, hok, hc⟩ := hf k hk
  · exact hok
  · rfl
theorem Prs.ce {l : List Pr} {m : Pr} (h : Prs w (.slice A n c) l) (hm : l[k]? = some m) : ∀ W, Only NoF w W → CA W (eA A 2 k) [.int .i64 m.x, .int .i64 m.y] := by
  obtain ⟨hk, rfl⟩ := List.getElem?_eq_some_iff.1 hm
  obtain ⟨A', cap, e, _, _, hf⟩ := Prs.form h
  cases e
  obtain ⟨b, off, rfl, ok1, ok2, hc⟩ := hf k hk
  refine fun W o => ca_of fun j u hu => ?_
  obtain ⟨c0, c1⟩ := hc W o
  match j, hu with
  | 0, hu => cases hu; exact c0
  | 1, hu => cases hu; exact c1
theorem Prs.el {l : List Pr} (h : Prs w (.slice A n c) l) (hk : k < l.length) : ∃ m, l[k]? = some m ∧ (I64 m.x ∧ I64 m.y) ∧ A.isSome = true ∧ ∀ W, Only NoF w W → CA W (eA A 2 k) [.int .i64 m.x, .int .i64 m.y] := by
  refine ⟨l[k], List.getElem?_eq_getElem hk, ?_, ?_, h.ce (List.getElem?_eq_getElem hk)⟩
  all_goals
    obtain ⟨A', cap, e, _, _, hf⟩ := Prs.form h
    cases e
    obtain ⟨b, off, rfl, ok1, ok2, hc⟩ := hf k hk
  · exact ⟨ok1, ok2⟩
  · rfl
theorem Evs.ce {l : List Ev} {m : Ev} (h : Evs w (.slice A n c) l) (hm : l[k]? = some m) : ∀ W, Only NoF w W → CA W (eA A 4 k) [.int .i64 m.k, .int .i64 m.a, .int .i64 m.b, strV m.t] := by
  obtain ⟨hk, rfl⟩ := List.getElem?_eq_some_iff.1 hm
  obtain ⟨A', cap, e, _, _, hf⟩ := Evs.form h
  cases e
  obtain ⟨b, off, rfl, ok1, ok2, ok3, ok4, hc⟩ := hf k hk
  refine fun W o => ca_of fun j u hu => ?_
  obtain ⟨c0, c1, c2, c3⟩ := hc W o
  match j, hu with
  | 0, hu => cases hu; exact c0
  | 1, hu => cases hu; exact c1
  | 2, hu => cases hu; exact c2
  | 3, hu => cases hu; exact c3
theorem Evs.el {l : List Ev} (h : Evs w (.slice A n c) l) (hk : k < l.length) : ∃ m, l[k]? = some m ∧ (I64 m.k ∧ I64 m.a ∧ I64 m.b ∧ m.t.length ≤ maxLen) ∧ A.isSome = true ∧ ∀ W, Only NoF w W → CA W (eA A 4 k) [.int .i64 m.k, .int .i64 m.a, .int .i64 m.b, strV m.t] := by
  refine ⟨l[k], List.getElem?_eq_getElem hk, ?_, ?_, h.ce (List.getElem?_eq_getElem hk)⟩
  all_goals
    obtain ⟨A', cap, e, _, _, hf⟩ := Evs.form h
    cases e
    obtain ⟨b, off, rfl, ok1, ok2, ok3, ok4, hc⟩ := hf k hk
  · exact ⟨ok1, ok2, ok3, ok4⟩
  · rfl
theorem Errs.ce {l : List Int} {m : Int} (h : Errs w (.slice A n c) l) (hm : l[k]? = some m) : ∀ W, Only NoF w W → CA W (eA A 1 k) [.int .i64 m] := by
  obtain ⟨hk, rfl⟩ := List.getElem?_eq_some_iff.1 hm
  obtain ⟨A', cap, e, _, _, hf⟩ := Errs.form h
  cases e
  obtain ⟨b, off, rfl, ok1, hc⟩ := hf k hk
  refine fun W o => ca_of fun j u hu => ?_
  have c0 := hc W o
  match j, hu with
  | 0, hu => cases hu; simpa using c0
theorem Errs.el {l : List Int} (h : Errs w (.slice A n c) l) (hk : k < l.length) : ∃ m, l[k]? = some m ∧ I64 m ∧ A.isSome = true ∧ ∀ W, Only NoF w W → CA W (eA A 1 k) [.int .i64 m] := by
  refine ⟨l[k], List.getElem?_eq_getElem hk, ?_, ?_, h.ce (List.getElem?_eq_getElem hk)⟩
  all_goals
    obtain ⟨A', cap, e, _, _, hf⟩ := Errs.form h
    cases e
    obtain ⟨b, off, rfl, ok1, hc⟩ := hf k hk
  · exact ok1
  · rfl
/-- a slice's own three words -/
theorem Msgs.shape_ {v : Value} {l : List Msg} (h : Msgs w v l) : ∃ A c, v = .slice A l.length c ∧ l.length ≤ 9223372036854775807 := by
  obtain ⟨A, c, e, h1, h2⟩ := SliceOf.shape h
  unfold maxLen at h2
  exact ⟨A, c, e, by omega⟩
theorem Prs.shape_ {v : Value} {l : List Pr} (h : Prs w v l) : ∃ A c, v = .slice A l.length c ∧ l.length ≤ 9223372036854775807 := by
  obtain ⟨A, c, e, h1, h2⟩ := SliceOf.shape h
  unfold maxLen at h2
  exact ⟨A, c, e, by omega⟩
theorem Evs.shape_ {v : Value} {l : List Ev} (h : Evs w v l) : ∃ A c, v = .slice A l.length c ∧ l.length ≤ 9223372036854775807 := by
  obtain ⟨A, c, e, h1, h2⟩ := SliceOf.shape h
  unfold maxLen at h2
  exact ⟨A, c, e, by omega⟩
theorem Errs.shape_ {v : Value} {l : List Int} (h : Errs w v l) : ∃ A c, v = .slice A l.length c ∧ l.length ≤ 9223372036854775807 := by
  obtain ⟨A, c, e, h1, h2⟩ := SliceOf.shape h
  unfold maxLen at h2
  exact ⟨A, c, e, by omega⟩
end

/-! ### where a row's blocks lie -/
def geB (n : Nat) : Nat → Prop := fun k => n ≤ k
def neB (g : Nat) : Nat → Prop := fun k => k ≠ g
section
variable {α : Type} {size : Nat} {R : World → List Value → α → Prop} {l : List α} {w w' : World} {v : Value} {S : Nat → Prop} {g n : Nat}
theorem geB.st (h : g < n) : ∀ k, geB n k → ¬ oneF g k := fun k hk e => by
  have e' : k = g := e
  unfold geB at hk
  omega
theorem neB.st : ∀ k, neB g k → ¬ oneF g k := fun _ hk e => hk e
theorem SliceOf.sub (h : SliceOf S size R w v l) {A : Option Addr} {m cap lo : Nat} (hv : v = .slice A l.length cap) (hl : lo + m ≤ l.length) : SliceOf S size R w (.slice (slA A cap lo size) m (cap - lo)) ((l.drop lo).take m) := by
  obtain ⟨A', cap', xs, e, h1, h2, h3, h4⟩ := h
  subst hv
  cases e
  have hlen : ((l.drop lo).take m).length = m := by simp; omega
  have h5 := (h3.cut (k := lo) (cap := cap) (by omega) h1).take_ (k := m) (by omega)
  refine ⟨_, _, _, by rw [hlen], by omega, by omega, by rw [hlen]; exact h5, fun i x hx => ?_⟩
  have hi : i < m := by have := (List.getElem?_eq_some_iff.1 hx).1; omega
  rw [List.getElem?_take, if_pos hi, List.getElem?_drop] at hx
  have := h4 _ x hx
  have e : (((xs.drop (lo * size)).take (m * size)).drop (i * size)).take size = (xs.drop ((lo + i) * size)).take size := by
    rw [List.drop_take, List.take_take, List.drop_drop, ← Nat.add_mul]
    congr 1
    have : (i + 1) * size ≤ m * size := Nat.mul_le_mul_right _ hi
    rw [Nat.succ_mul] at this
    omega
  rw [e]
  exact this
end
theorem SliceOf.kp {α : Type} {size : Nat} {R : World → List Value → α → Prop} {l : List α} {w w' : World} {v : Value} {S F : Nat → Prop} (h : SliceOf S size R w v l) (o : Only F w w') (hF : ∀ k, S k → ¬ F k) (hR : ∀ w w' cs x, R w cs x → R w' cs x) : SliceOf S size R w' v l := SliceOf.only h o hF fun _ _ _ h => hR _ _ _ _ h
theorem SliceOf.cap_ {α : Type} {size : Nat} {R : World → List Value → α → Prop} {l : List α} {w : World} {A : Option Addr} {n c : Nat} {S : Nat → Prop} (h : SliceOf S size R w (.slice A n c) l) : l.length ≤ c := by
  obtain ⟨A, c, xs, e, h1, _⟩ := h
  cases e
  exact h1
theorem SliceOf.pl {α : Type} {size : Nat} {R : World → List Value → α → Prop} {l : List α} {w : World} {v : Value} {S : Nat → Prop} (h : SliceOf S size R w v l) : SliceOf AllB size R w v l := h.sup fun _ _ => trivial
theorem take_one {α : Type} {l : List α} {k : Nat} {x : α} (h : l[k]? = some x) : (l.drop k).take 1 = [x] := by
  obtain ⟨hk, rfl⟩ := List.getElem?_eq_some_iff.1 h
  rw [List.drop_eq_getElem_cons hk]
  rfl
end Go.Proofs.Ytocbfobakmieoaa
