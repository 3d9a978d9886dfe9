/-
  How what is on its way lies in memory: messages, pairs, events, errors, an Air. No condition: definitions and lemmas on them.
-/
import Derived.Test.YtocbfobakmieoaaLnk
import Derived.Test.YtocbfobakmieoaaRowOps
import Derived.Test.YtocbfobakmieoaaProg
import Derived.KernelRfl
import Derived.WalkSpells
namespace Go.Proofs.Ytocbfobakmieoaa
set_option linter.unusedVariables false
set_option linter.unusedSimpArgs false
set_option linter.unusedSectionVars false
open Go.RowKit

theorem info_Msg : (Try.prog.info? 27).map (fun i => (i.zero, i.size, i.bytes)) = some (some (.agg #[.int .i64 0, .int .i64 0, strV []]), 3, 32) := by kernel_rfl
theorem info_Pr : (Try.prog.info? 60).map (fun i => (i.zero, i.size, i.bytes)) = some (some (.agg #[.int .i64 0, .int .i64 0]), 2, 16) := by kernel_rfl
theorem info_Errno : (Try.prog.info? 32).map (fun i => (i.zero, i.size, i.bytes)) = some (some (.int .i64 0), 1, 8) := by kernel_rfl
theorem info_Ev : (Try.prog.info? 48).map (fun i => (i.zero, i.size, i.bytes)) = some (some (.agg #[.int .i64 0, .int .i64 0, .int .i64 0, strV []]), 4, 40) := by kernel_rfl
theorem zeroMsg (w : World) : (zeroValue 27).run Try.prog w = .ok (.agg #[.int .i64 0, .int .i64 0, strV []]) w := by kernel_rfl
theorem zeroPr (w : World) : (zeroValue 60).run Try.prog w = .ok (.agg #[.int .i64 0, .int .i64 0]) w := by kernel_rfl

def AllB : Nat → Prop := fun _ => True
def RMsg (_ : World) (cs : List Value) (m : Msg) : Prop := cs = [.int .i64 m.a, .int .i64 m.b, strV m.t] ∧ I64 m.a ∧ I64 m.b ∧ m.t.length ≤ maxLen
def RPr (_ : World) (cs : List Value) (p : Pr) : Prop := cs = [.int .i64 p.x, .int .i64 p.y] ∧ I64 p.x ∧ I64 p.y
def REv (_ : World) (cs : List Value) (e : Ev) : Prop := cs = [.int .i64 e.k, .int .i64 e.a, .int .i64 e.b, strV e.t] ∧ I64 e.k ∧ I64 e.a ∧ I64 e.b ∧ e.t.length ≤ maxLen
abbrev Msgs (w : World) (v : Value) (l : List Msg) : Prop := SliceOf AllB 3 RMsg w v l
abbrev Prs (w : World) (v : Value) (l : List Pr) : Prop := SliceOf AllB 2 RPr w v l
abbrev Evs (w : World) (v : Value) (l : List Ev) : Prop := SliceOf AllB 4 REv w v l
abbrev Errs (w : World) (v : Value) (l : List Int) : Prop := SliceOf AllB 1 RInt w v l
def AirV (w : World) (v : Value) (a : Air) : Prop := ∃ v1 v2, v = .agg #[v1, v2] ∧ Msgs w v1 a.ms ∧ Prs w v2 a.cs
abbrev msgV (m : Msg) : Value := .agg #[.int .i64 m.a, .int .i64 m.b, strV m.t]
abbrev prV (p : Pr) : Value := .agg #[.int .i64 p.x, .int .i64 p.y]
def MsgOk (m : Msg) : Prop := I64 m.a ∧ I64 m.b ∧ m.t.length ≤ maxLen

def msgCells (l : List Msg) : List Value := l.flatMap fun m => [.int .i64 m.a, .int .i64 m.b, strV m.t]
def prCells (l : List Pr) : List Value := l.flatMap fun p => [.int .i64 p.x, .int .i64 p.y]
theorem msgCells_cons (m : Msg) (l : List Msg) : msgCells (m :: l) = .int .i64 m.a :: .int .i64 m.b :: strV m.t :: msgCells l := rfl
theorem prCells_cons (p : Pr) (l : List Pr) : prCells (p :: l) = .int .i64 p.x :: .int .i64 p.y :: prCells l := rfl
theorem msgCells_append (a b : List Msg) : msgCells (a ++ b) = msgCells a ++ msgCells b := by simp [msgCells]
theorem prCells_append (a b : List Pr) : prCells (a ++ b) = prCells a ++ prCells b := by simp [prCells]
theorem length_msgCells (l : List Msg) : (msgCells l).length = l.length * 3 := by
  induction l with
  | nil => rfl
  | cons m l ih => rw [msgCells_cons]; simp [ih]; omega
theorem length_prCells (l : List Pr) : (prCells l).length = l.length * 2 := by
  induction l with
  | nil => rfl
  | cons p l ih => rw [prCells_cons]; simp [ih]; omega
theorem msgCells_one (l : List Msg) : ∀ u ∈ msgCells l, u.oneCell' = true := by
  intro u hu
  simp only [msgCells, List.mem_flatMap] at hu
  obtain ⟨m, _, hm⟩ := hu
  simp at hm
  rcases hm with rfl | rfl | rfl <;> rfl
theorem prCells_one (l : List Pr) : ∀ u ∈ prCells l, u.oneCell' = true := by
  intro u hu
  simp only [prCells, List.mem_flatMap] at hu
  obtain ⟨m, _, hm⟩ := hu
  simp at hm
  rcases hm with rfl | rfl <;> rfl
theorem msgCells_get : ∀ (l : List Msg) (i : Nat) (h : i < l.length), ((msgCells l).drop (i * 3)).take 3 = [.int .i64 l[i].a, .int .i64 l[i].b, strV l[i].t]
  | [], i, h => by simp at h
  | m :: l, 0, _ => rfl
  | m :: l, i + 1, h => by
    rw [msgCells_cons, show (i + 1) * 3 = i * 3 + 1 + 1 + 1 by omega]
    simpa using msgCells_get l i (by simpa using h)
theorem prCells_get : ∀ (l : List Pr) (i : Nat) (h : i < l.length), ((prCells l).drop (i * 2)).take 2 = [.int .i64 l[i].x, .int .i64 l[i].y]
  | [], i, h => by simp at h
  | m :: l, 0, _ => rfl
  | m :: l, i + 1, h => by
    rw [prCells_cons, show (i + 1) * 2 = i * 2 + 1 + 1 by omega]
    simpa using prCells_get l i (by simpa using h)
theorem msgCells_take (l : List Msg) : ∀ k, msgCells (l.take k) = (msgCells l).take (k * 3) := by
  induction l with
  | nil => intro k; simp [msgCells]
  | cons p q ih =>
    intro k
    cases k with
    | zero => simp [msgCells]
    | succ k => rw [List.take_succ_cons, msgCells_cons, msgCells_cons, ih, show (k + 1) * 3 = k * 3 + 1 + 1 + 1 by omega]; rfl
theorem prCells_take (l : List Pr) : ∀ k, prCells (l.take k) = (prCells l).take (k * 2) := by
  induction l with
  | nil => intro k; simp [prCells]
  | cons p q ih =>
    intro k
    cases k with
    | zero => simp [prCells]
    | succ k => rw [List.take_succ_cons, prCells_cons, prCells_cons, ih, show (k + 1) * 2 = k * 2 + 1 + 1 by omega]; rfl
theorem msgCells_drop (l : List Msg) : ∀ k, msgCells (l.drop k) = (msgCells l).drop (k * 3) := by
  induction l with
  | nil => intro k; simp [msgCells]
  | cons p q ih =>
    intro k
    cases k with
    | zero => simp
    | succ k => rw [List.drop_succ_cons, msgCells_cons, ih, show (k + 1) * 3 = k * 3 + 1 + 1 + 1 by omega]; rfl
theorem prCells_drop (l : List Pr) : ∀ k, prCells (l.drop k) = (prCells l).drop (k * 2) := by
  induction l with
  | nil => intro k; simp [prCells]
  | cons p q ih =>
    intro k
    cases k with
    | zero => simp
    | succ k => rw [List.drop_succ_cons, prCells_cons, ih, show (k + 1) * 2 = k * 2 + 1 + 1 by omega]; rfl

section
variable {w w' : World} {v : Value} {F : Nat → Prop}
theorem Msgs.keep {l : List Msg} (h : Msgs w v l) (ho : Only NoF w w') : Msgs w' v l := SliceOf.only h ho (fun _ _ h => h) fun _ _ _ h => h
theorem Prs.keep {l : List Pr} (h : Prs w v l) (ho : Only NoF w w') : Prs w' v l := SliceOf.only h ho (fun _ _ h => h) fun _ _ _ h => h
theorem Evs.keep {l : List Ev} (h : Evs w v l) (ho : Only NoF w w') : Evs w' v l := SliceOf.only h ho (fun _ _ h => h) fun _ _ _ h => h
theorem Errs.keep {l : List Int} (h : Errs w v l) (ho : Only NoF w w') : Errs w' v l := SliceOf.only h ho (fun _ _ h => h) fun _ _ _ h => h
theorem AirV.keep {a : Air} (h : AirV w v a) (ho : Only NoF w w') : AirV w' v a := by
  obtain ⟨v1, v2, e, h1, h2⟩ := h
  exact ⟨v1, v2, e, Msgs.keep h1 ho, Prs.keep h2 ho⟩
theorem Msgs.oks {l : List Msg} (h : Msgs w v l) : ∀ m ∈ l, MsgOk m := by
  obtain ⟨A, cap, xs, _, _, _, _, h4⟩ := h
  intro m hm
  obtain ⟨i, hi⟩ := List.getElem?_of_mem hm
  obtain ⟨_, h⟩ := h4 i m hi
  exact h
theorem Prs.oks {l : List Pr} (h : Prs w v l) : ∀ p ∈ l, I64 p.x ∧ I64 p.y := by
  obtain ⟨A, cap, xs, _, _, _, _, h4⟩ := h
  intro m hm
  obtain ⟨i, hi⟩ := List.getElem?_of_mem hm
  obtain ⟨_, h⟩ := h4 i m hi
  exact h
/-- the slice's cells are these -/
theorem Msgs.cells {l : List Msg} (h : Msgs w v l) : ∃ A cap, v = .slice A l.length cap ∧ l.length ≤ cap ∧ cap ≤ maxLen ∧ Reads w AllB 3 A l.length (msgCells l) := by
  obtain ⟨A, cap, xs, rfl, h1, h2, h3, h4⟩ := h
  have e : xs = msgCells l := by
    apply List.ext_getElem?
    intro j
    by_cases hj : j < l.length * 3
    · have hi : j / 3 < l.length := by omega
      obtain ⟨hc, _⟩ := h4 (j / 3) _ (List.getElem?_eq_getElem hi)
      have h5 := msgCells_get l (j / 3) hi
      have e1 : ∀ ys : List Value, ys[j]? = ((ys.drop (j / 3 * 3)).take 3)[j % 3]? := fun ys => by
        rw [List.getElem?_take, if_pos (by omega), List.getElem?_drop]
        congr 1
        omega
      rw [e1 xs, e1 (msgCells l), hc, h5]
    · rw [List.getElem?_eq_none (by rw [h3.1]; omega), List.getElem?_eq_none (by rw [length_msgCells]; omega)]
  subst e
  exact ⟨A, cap, rfl, h1, h2, h3⟩
theorem Prs.cells {l : List Pr} (h : Prs w v l) : ∃ A cap, v = .slice A l.length cap ∧ l.length ≤ cap ∧ cap ≤ maxLen ∧ Reads w AllB 2 A l.length (prCells l) := by
  obtain ⟨A, cap, xs, rfl, h1, h2, h3, h4⟩ := h
  have e : xs = prCells l := by
    apply List.ext_getElem?
    intro j
    by_cases hj : j < l.length * 2
    · have hi : j / 2 < l.length := by omega
      obtain ⟨hc, _⟩ := h4 (j / 2) _ (List.getElem?_eq_getElem hi)
      have h5 := prCells_get l (j / 2) hi
      have e1 : ∀ ys : List Value, ys[j]? = ((ys.drop (j / 2 * 2)).take 2)[j % 2]? := fun ys => by
        rw [List.getElem?_take, if_pos (by omega), List.getElem?_drop]
        congr 1
        omega
      rw [e1 xs, e1 (prCells l), hc, h5]
    · rw [List.getElem?_eq_none (by rw [h3.1]; omega), List.getElem?_eq_none (by rw [length_prCells]; omega)]
  subst e
  exact ⟨A, cap, rfl, h1, h2, h3⟩
/-- an owned row of such cells reads as the list -/
theorem Msgs.own {base n : Nat} {l : List Msg} (h : w.ownsRow base 27 3 v n (msgCells l)) (hn : n = l.length) (hm : ∀ m ∈ l, MsgOk m) : Msgs w v l := by
  subst hn
  obtain ⟨A, c, e, h1, h2, h3⟩ := Reads.of_own h
  exact ⟨A, c, msgCells l, e, h1, h2, h3.sup fun _ _ => trivial, fun i x hx => ⟨by
    obtain ⟨hi, rfl⟩ := List.getElem?_eq_some_iff.1 hx
    exact msgCells_get l i hi, hm x (List.mem_of_getElem? hx)⟩⟩
theorem Prs.own {base n : Nat} {l : List Pr} (h : w.ownsRow base 60 2 v n (prCells l)) (hn : n = l.length) (hm : ∀ p ∈ l, I64 p.x ∧ I64 p.y) : Prs w v l := by
  subst hn
  obtain ⟨A, c, e, h1, h2, h3⟩ := Reads.of_own h
  exact ⟨A, c, prCells l, e, h1, h2, h3.sup fun _ _ => trivial, fun i x hx => ⟨by
    obtain ⟨hi, rfl⟩ := List.getElem?_eq_some_iff.1 hx
    exact prCells_get l i hi, hm x (List.mem_of_getElem? hx)⟩⟩
/-- element by element, the address asked for where there is one -/
theorem Msgs.form {l : List Msg} (h : Msgs w v l) : ∃ A cap, v = .slice A l.length cap ∧ l.length ≤ cap ∧ cap ≤ maxLen ∧
    ∀ i (hi : i < l.length), ∃ b off, A = some ⟨b, off, none⟩ ∧ MsgOk l[i] ∧ ∀ w', Only NoF w w' →
      w'.cell? ⟨b, off + i * 3, none⟩ = some (.int .i64 l[i].a) ∧ w'.cell? ⟨b, off + i * 3 + 1, none⟩ = some (.int .i64 l[i].b) ∧ w'.cell? ⟨b, off + i * 3 + 2, none⟩ = some (strV l[i].t) := by
  by_cases hl : 0 < l.length
  · obtain ⟨b, off, cap, e, h1, h2, _, h4, h5⟩ := SliceOf.form h (by decide) hl
    refine ⟨_, cap, e, h1, h2, fun i hi => ?_⟩
    obtain ⟨cs, ⟨rfl, a1⟩, hc⟩ := h5 i l[i] (List.getElem?_eq_getElem hi)
    refine ⟨b, off, rfl, a1, fun w' ho => ?_⟩
    have k := fun (o : Nat) => ho.cell (p := ⟨b, o, none⟩) h4 id
    exact ⟨(k _).trans (hc 0 _ rfl), (k _).trans (hc 1 _ rfl), (k _).trans (hc 2 _ rfl)⟩
  · obtain ⟨A, cap, e, h1, h2⟩ := SliceOf.shape h
    exact ⟨A, cap, e, h1, h2, fun i hi => by omega⟩
theorem Prs.form {l : List Pr} (h : Prs w v l) : ∃ A cap, v = .slice A l.length cap ∧ l.length ≤ cap ∧ cap ≤ maxLen ∧
    ∀ i (hi : i < l.length), ∃ b off, A = some ⟨b, off, none⟩ ∧ I64 l[i].x ∧ I64 l[i].y ∧ ∀ w', Only NoF w w' →
      w'.cell? ⟨b, off + i * 2, none⟩ = some (.int .i64 l[i].x) ∧ w'.cell? ⟨b, off + i * 2 + 1, none⟩ = some (.int .i64 l[i].y) := by
  by_cases hl : 0 < l.length
  · obtain ⟨b, off, cap, e, h1, h2, _, h4, h5⟩ := SliceOf.form h (by decide) hl
    refine ⟨_, cap, e, h1, h2, fun i hi => ?_⟩
    obtain ⟨cs, ⟨rfl, a1, a2⟩, hc⟩ := h5 i l[i] (List.getElem?_eq_getElem hi)
    refine ⟨b, off, rfl, a1, a2, fun w' ho => ?_⟩
    have k := fun (o : Nat) => ho.cell (p := ⟨b, o, none⟩) h4 id
    exact ⟨(k _).trans (hc 0 _ rfl), (k _).trans (hc 1 _ rfl)⟩
  · obtain ⟨A, cap, e, h1, h2⟩ := SliceOf.shape h
    exact ⟨A, cap, e, h1, h2, fun i hi => by omega⟩
theorem Evs.form {l : List Ev} (h : Evs w v l) : ∃ A cap, v = .slice A l.length cap ∧ l.length ≤ cap ∧ cap ≤ maxLen ∧
    ∀ i (hi : i < l.length), ∃ b off, A = some ⟨b, off, none⟩ ∧ I64 l[i].k ∧ I64 l[i].a ∧ I64 l[i].b ∧ l[i].t.length ≤ maxLen ∧ ∀ w', Only NoF w w' →
      w'.cell? ⟨b, off + i * 4, none⟩ = some (.int .i64 l[i].k) ∧ w'.cell? ⟨b, off + i * 4 + 1, none⟩ = some (.int .i64 l[i].a) ∧ w'.cell? ⟨b, off + i * 4 + 2, none⟩ = some (.int .i64 l[i].b) ∧ w'.cell? ⟨b, off + i * 4 + 3, none⟩ = some (strV l[i].t) := by
  by_cases hl : 0 < l.length
  · obtain ⟨b, off, cap, e, h1, h2, _, h4, h5⟩ := SliceOf.form h (by decide) hl
    refine ⟨_, cap, e, h1, h2, fun i hi => ?_⟩
    obtain ⟨cs, ⟨rfl, a1, a2, a3, a4⟩, hc⟩ := h5 i l[i] (List.getElem?_eq_getElem hi)
    refine ⟨b, off, rfl, a1, a2, a3, a4, fun w' ho => ?_⟩
    have k := fun (o : Nat) => ho.cell (p := ⟨b, o, none⟩) h4 id
    exact ⟨(k _).trans (hc 0 _ rfl), (k _).trans (hc 1 _ rfl), (k _).trans (hc 2 _ rfl), (k _).trans (hc 3 _ rfl)⟩
  · obtain ⟨A, cap, e, h1, h2⟩ := SliceOf.shape h
    exact ⟨A, cap, e, h1, h2, fun i hi => by omega⟩
theorem Errs.form {l : List Int} (h : Errs w v l) : ∃ A cap, v = .slice A l.length cap ∧ l.length ≤ cap ∧ cap ≤ maxLen ∧
    ∀ i (hi : i < l.length), ∃ b off, A = some ⟨b, off, none⟩ ∧ I64 l[i] ∧ ∀ w', Only NoF w w' → w'.cell? ⟨b, off + i, none⟩ = some (.int .i64 l[i]) := by
  by_cases hl : 0 < l.length
  · obtain ⟨b, off, cap, e, h1, h2, _, h4, h5⟩ := SliceOf.form h (by decide) hl
    refine ⟨_, cap, e, h1, h2, fun i hi => ?_⟩
    obtain ⟨cs, ⟨rfl, a1⟩, hc⟩ := h5 i l[i] (List.getElem?_eq_getElem hi)
    refine ⟨b, off, rfl, a1, fun w' ho => ?_⟩
    have k := fun (o : Nat) => ho.cell (p := ⟨b, o, none⟩) h4 id
    have := hc 0 _ rfl
    rw [Nat.mul_one, Nat.add_zero] at this
    exact (k _).trans this
  · obtain ⟨A, cap, e, h1, h2⟩ := SliceOf.shape h
    exact ⟨A, cap, e, h1, h2, fun i hi => by omega⟩
end
end Go.Proofs.Ytocbfobakmieoaa
