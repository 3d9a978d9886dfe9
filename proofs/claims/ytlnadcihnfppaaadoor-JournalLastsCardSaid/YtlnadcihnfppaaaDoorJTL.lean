/-
  Records whose bytes are cut off, or 0 in places: what is read of them. No condition beyond those that each names.
  JournalLasts, as plain data. No condition beyond those that each names.
-/
import Derived.Test.YtlnadcihnfppaaaDoorJSA
namespace Go.Proofs.YtlnadcihnfppaaaDoor
set_option linter.unusedVariables false
set_option linter.unusedSimpArgs false
set_option linter.unusedSectionVars false
section
open Go.RowKit

/-- r is what is left of X when bytes become 0 and the end is cut off -/
def Zr : Str → Str → Prop
  | [], _ => True
  | _ :: _, [] => False
  | b :: r, x :: X => (b = x ∨ b = 0) ∧ Zr r X
theorem zr_of : ∀ (r X : Str), r.length ≤ X.length → (∀ i : Nat, r.getD i 0 = X.getD i 0 ∨ r.getD i 0 = 0) → Zr r X
  | [], _, _, _ => trivial
  | b :: r, [], h, _ => by simp at h
  | b :: r, x :: X, h, hi => ⟨by simpa using hi 0, zr_of r X (by simpa using h) fun i => by simpa using hi (i + 1)⟩
theorem zr_nz : ∀ (p : Str) {r X : Str}, (∀ b ∈ p, b ≠ 0) → Zr (p ++ r) X → ∃ X', X = p ++ X' ∧ Zr r X'
  | [], r, X, _, h => ⟨X, rfl, h⟩
  | b :: p, r, [], _, h => by cases h
  | b :: p, r, x :: X, hp, h => by
    obtain ⟨hb, h⟩ := h
    have hb' : b = x := by
      rcases hb with hb | hb
      · exact hb
      · exact absurd hb (hp b (by simp))
    obtain ⟨X', rfl, h'⟩ := zr_nz p (fun c hc => hp c (by simp [hc])) h
    exact ⟨X', by rw [hb']; rfl, h'⟩
theorem zr_cut : ∀ (u t : Str) {r X : Str}, u.length = t.length → Zr (u ++ r) (t ++ X) → Zr u t ∧ Zr r X
  | [], [], r, X, _, h => ⟨trivial, h⟩
  | [], y :: t, r, X, h, _ => by simp at h
  | b :: u, [], r, X, h, _ => by simp at h
  | b :: u, y :: t, r, X, hl, h => by
    obtain ⟨hb, h⟩ := h
    obtain ⟨h1, h2⟩ := zr_cut u t (by simpa using hl) h
    exact ⟨⟨hb, h1⟩, h2⟩
theorem zr_sum : ∀ (u t : Str) (i : Nat), u.length = t.length → Zr u t → sumA i u ≤ sumA i t ∧ (sumA i u = sumA i t → u = t)
  | [], [], _, _, _ => ⟨Int.le_refl _, fun _ => rfl⟩
  | [], y :: t, _, h, _ => by simp at h
  | b :: u, [], _, h, _ => by simp at h
  | b :: u, y :: t, i, hl, ⟨hb, h⟩ => by
    obtain ⟨h1, h2⟩ := zr_sum u t (i + 1) (by simpa using hl) h
    unfold sumA
    rcases hb with rfl | rfl
    · refine ⟨by omega, fun e => ?_⟩
      rw [h2 (by omega)]
    · have h0 : ((((0 : UInt8).toNat : Nat) : Int)) * ((i : Int) + 1) = 0 := by
        have : (0 : UInt8).toNat = 0 := rfl
        rw [this]; simp
      by_cases hy : y = 0
      · subst hy
        refine ⟨by omega, fun e => ?_⟩
        rw [h2 (by omega)]
      · have hy' : 0 < y.toNat := by
          rcases Nat.eq_zero_or_pos y.toNat with h | h
          · exact absurd (UInt8.toNat_inj.1 (by rw [h]; rfl)) hy
          · exact h
        have h3 : 0 < ((y.toNat : Nat) : Int) * ((i : Int) + 1) := Int.mul_pos (by omega) (by omega)
        exact ⟨by omega, fun e => by omega⟩
theorem itoa_nz {n : Int} : ∀ b ∈ Lib.itoa n, b ≠ 0 := fun b hb e => by
  rcases itoa_byte n b hb with h | h
  · rw [h] at e; cases e
  · rw [e] at h
    have : (0 : UInt8).toNat = 0 := rfl
    omega
theorem sep58 : Wr.Sep 58 := by unfold Wr.Sep; decide
theorem sep59 : Wr.Sep 59 := by unfold Wr.Sep; decide
theorem num_det {a b : Int} {e : UInt8} {X Y : Str} (he : Wr.Sep e) (ha : Wr.Ok a ∧ 0 ≤ a) (hb : Wr.Ok b ∧ 0 ≤ b) (h : Lib.itoa a ++ e :: X = Lib.itoa b ++ e :: Y) : a = b ∧ X = Y := by
  have h1 := Wr.number_ok (e := e) (least := 0) (r := X) (b := false) ha.1 he ha.2
  have h2 := Wr.number_ok (e := e) (least := 0) (r := Y) (b := false) hb.1 he hb.2
  rw [h] at h1
  have := h1.symm.trans h2
  have e1 := congrArg Prod.fst this
  have e2 := congrArg (fun p => p.2.r) this
  exact ⟨e1, e2⟩
theorem form_flat {t : Str} (ht : t.length ≤ 20000) : form t = (Lib.itoa ((t.length : Nat) : Int) ++ [58]) ++ (t ++ 44 :: ((Lib.itoa (jsum t) ++ [59]) ++ [])) := by
  have h0 := (jsum_ok (t := t) (by omega)).2
  unfold form Wr.textE Wr.numE Wr.intE
  rw [if_neg (by omega)]
  simp
theorem zr_form {u t r X : Str} (hu : u.length ≤ 20000) (ht : t.length ≤ 20000) (h : Zr (form u ++ r) (form t ++ X)) : u = t ∧ Zr r X := by
  have hjt := jsum_ok (t := t) (by omega)
  have hju := jsum_ok (t := u) (by omega)
  rw [form_flat hu, List.append_assoc] at h
  have nz : ∀ {n : Int} {e : UInt8}, e ≠ 0 → ∀ b ∈ Lib.itoa n ++ [e], b ≠ 0 := fun he b hb => by
    rcases List.mem_append.1 hb with hb | hb
    · exact itoa_nz b hb
    · rw [List.mem_singleton.1 hb]; exact he
  obtain ⟨X1, e1, h1⟩ := zr_nz _ (nz (by decide)) h
  rw [form_flat ht] at e1
  simp only [List.append_assoc, List.cons_append, List.nil_append] at e1 h1
  obtain ⟨hl, rfl⟩ := num_det sep58 ⟨by unfold Wr.Ok; omega, by omega⟩ ⟨by unfold Wr.Ok; omega, by omega⟩ e1
  obtain ⟨h2, h3⟩ := zr_cut u t (by omega) h1
  obtain ⟨_, h3⟩ := h3
  have h3' : Zr ((Lib.itoa (jsum u) ++ [59]) ++ r) (Lib.itoa (jsum t) ++ 59 :: X) := by
    rw [List.append_assoc]; exact h3
  obtain ⟨X2, e2, h4⟩ := zr_nz _ (nz (by decide)) h3'
  rw [List.append_assoc] at e2
  obtain ⟨hs, rfl⟩ := num_det sep59 hjt hju e2
  exact ⟨(zr_sum u t 0 (by omega) h2).2 hs.symm, h4⟩
theorem zr_recs : ∀ (n : Nat) (r : Str) (B : List Str), r.length ≤ n → (∀ t ∈ B, t.length ≤ 20000) → Zr r (forms B) → recs r <+: B
  | n, r, B, hn, hB, h => by
    cases e : one r with
    | none => rw [recs_none e]; exact List.nil_prefix
    | some u =>
      obtain ⟨_, hu, _, hf, hfu⟩ := one_some e
      have hp := form_pos u
      cases n with
      | zero => omega
      | succ n =>
        have er : r = form u ++ r.drop (form u).length := by
          conv => lhs; rw [← List.take_append_drop (form u).length r, hfu]
        cases B with
        | nil =>
          cases r with
          | nil => have h0 : ([] : Str).length = 0 := rfl; omega
          | cons b r => exact h.elim
        | cons t B =>
          rw [er, forms_cons] at h
          obtain ⟨rfl, h2⟩ := zr_form hu (hB t (by simp)) h
          have ih := zr_recs n (r.drop (form u).length) B (by rw [List.length_drop]; omega) (fun x hx => hB x (by simp [hx])) h2
          rw [recs_some e]
          exact (List.prefix_cons_inj u).2 ih
theorem recs_head : ∀ (S : List Str) (r : Str), (∀ t ∈ S, t.length ≤ 20000) → recs (forms S ++ r) = S ++ recs r
  | [], r, _ => rfl
  | t :: S, r, h => by
    rw [forms_cons, List.append_assoc, recs_some (one_form (h t (by simp))), List.drop_left, recs_head S r fun x hx => h x (by simp [hx])]
    rfl
theorem pre_recs {S : List Str} {z : Str} (hS : ∀ t ∈ S, t.length ≤ 20000) (h : forms S <+: z) : S <+: recs z := by
  obtain ⟨r, rfl⟩ := h
  rw [recs_head S r hS]
  exact List.prefix_append S (recs r)
/-- a crash of a file of which a beginning is durable -/
theorem crash_zr {D : Dsk} (ht : D.Tidy) (hok : D.Ok) (keep : List Int) (f : Int) (h : (D.file f).2 <+: (D.file f).1) : Zr (Dsk.crashF keep 0 D.queue D.file f).2 (D.file f).1 ∧ (D.file f).2 <+: (Dsk.crashF keep 0 D.queue D.file f).2 := by
  obtain ⟨h1, h2, h3⟩ := Dsk.crash_some ht hok keep f
  obtain ⟨r, hr⟩ := h
  have hy : ∀ j : Nat, (D.file f).2.getD j 0 = if j < (D.file f).2.length then (D.file f).1.getD j 0 else 0 := by
    intro j
    rw [← hr]
    split
    · rename_i hj
      rw [List.getD_eq_getElem?_getD, List.getD_eq_getElem?_getD, List.getElem?_append_left hj]
    · rename_i hj
      rw [List.getD_eq_getElem?_getD, List.getElem?_eq_none (by omega)]; rfl
  have hz : ∀ j : Nat, (Dsk.crashF keep 0 D.queue D.file f).2.getD j 0 = (D.file f).1.getD j 0 ∨ (Dsk.crashF keep 0 D.queue D.file f).2.getD j 0 = (D.file f).2.getD j 0 := fun j => (h3 (j / 64)).imp (fun h => h j rfl) (fun h => h j rfl)
  refine ⟨zr_of _ _ h2 fun j => ?_, ?_⟩
  · rcases hz j with h | h
    · exact .inl h
    · rw [h, hy j]
      split
      · exact .inl rfl
      · exact .inr rfl
  · refine ⟨(Dsk.crashF keep 0 D.queue D.file f).2.drop (D.file f).2.length, ?_⟩
    conv => rhs; rw [← List.take_append_drop (D.file f).2.length (Dsk.crashF keep 0 D.queue D.file f).2]
    congr 1
    refine Dsk.str_ext (by rw [List.length_take]; omega) fun j => ?_
    by_cases hj : j < (D.file f).2.length
    · have e1 : ((Dsk.crashF keep 0 D.queue D.file f).2.take (D.file f).2.length).getD j 0 = (Dsk.crashF keep 0 D.queue D.file f).2.getD j 0 := by
        rw [List.getD_eq_getElem?_getD, List.getD_eq_getElem?_getD, List.getElem?_take, if_pos hj]
      rw [e1]
      have hyj := hy j
      rw [if_pos hj] at hyj
      rcases hz j with h | h
      · rw [h]; exact hyj
      · exact h.symm
    · rw [List.getD_eq_getElem?_getD, List.getElem?_eq_none (by omega), List.getD_eq_getElem?_getD, List.getElem?_eq_none (by rw [List.length_take]; omega)]
end
section
open Go.RowKit

namespace Dsk
variable {D : Dsk}
theorem Tidy.write (h : D.Tidy) (f a : Int) (s : Str) : (D.write f a s).1.Tidy := by
  have := h.step ⟨0, f, a, s, []⟩
  simpa [Dsk.step] using this
theorem Tidy.sync (h : D.Tidy) (f : Int) : (D.sync f).1.Tidy := by
  have := h.step ⟨2, f, 0, [], []⟩
  simpa [Dsk.step] using this
theorem Tidy.truncate (h : D.Tidy) (f n : Int) : (D.truncate f n).1.Tidy := by
  have := h.step ⟨3, f, n, [], []⟩
  simpa [Dsk.step] using this
end Dsk
/-- the machine is up, and the file holds the records: a beginning of it is durable, in which the sure ones stand -/
structure LR (D : Dsk) (A S : List Str) : Prop where
  up : D.down = false
  now : (D.file 3).1 = forms A
  last : (D.file 3).2 <+: (D.file 3).1
  sure : forms S <+: (D.file 3).2
/-- nothing is pending: what stands there begins with the sure ones and begins the list -/
structure LQ (D : Dsk) (A S : List Str) : Prop where
  still : ∃ x, Dsk.Still D 3 x ∧ S <+: recs x ∧ recs x <+: A
structure LInv (i : Nat) (D : Dsk) (oj : Option Jn) (A S : List Str) : Prop where
  ok : D.Ok
  tidy : D.Tidy
  sA : ∀ t ∈ A, t.length ≤ 20000
  sS : ∀ t ∈ S, t.length ≤ 20000
  len : (D.file 3).1.length ≤ 300 * i
  jn : ∀ J, oj = some J → J.f = 3 ∧ J.n ≤ 300 * i ∧ J.l.length ≤ J.n
  st : (LR D A S ∧ ∀ J, oj = some J → J.l = A ∧ J.n = (forms A).length) ∨ (LQ D A S ∧ ∀ J, oj = some J → J.bad = true)
section
variable {i : Nat} {D : Dsk} {oj : Option Jn} {J : Jn} {A S : List Str}
theorem LR.pre (h : LR D A S) (sA : ∀ t ∈ A, t.length ≤ 20000) (sS : ∀ t ∈ S, t.length ≤ 20000) : S <+: A := by
  have h1 := h.sure.trans h.last
  rw [h.now] at h1
  have := pre_recs sS h1
  rwa [recs_forms A sA] at this
/-- a crash, the machine being up -/
theorem LR.crash (h : LR D A S) (ok : D.Ok) (ht : D.Tidy) (sA : ∀ t ∈ A, t.length ≤ 20000) (sS : ∀ t ∈ S, t.length ≤ 20000) (keep : List Int) : LQ (D.crash keep) A S ∧ ((D.crash keep).file 3).1.length ≤ (D.file 3).1.length := by
  obtain ⟨z1, z2⟩ := crash_zr ht ok keep 3 h.last
  obtain ⟨c1, c2⟩ := Dsk.crash_up keep h.up 3
  have hq : (D.crash keep).queue = [] := by unfold Dsk.crash; rw [h.up]; rfl
  refine ⟨⟨_, ⟨Prod.ext c1 c2, fun p hp => by rw [hq] at hp; cases hp⟩, pre_recs sS (h.sure.trans z2), ?_⟩, ?_⟩
  · rw [h.now] at z1
    exact zr_recs _ _ _ (Nat.le_refl _) sA z1
  · rw [c1]; exact (Dsk.crash_some ht ok keep 3).2.1
theorem LQ.crash (h : LQ D A S) (keep : List Int) : LQ (D.crash keep) A S ∧ ((D.crash keep).file 3).1.length ≤ (D.file 3).1.length := by
  obtain ⟨x, hx, h1, h2⟩ := h.still
  have hc := hx.crash keep
  exact ⟨⟨x, hc, h1, h2⟩, by rw [hc.1, hx.1]; exact Nat.le_refl _⟩
theorem LInv.mono (h : LInv i D oj A S) : LInv (i + 1) D oj A S := ⟨h.ok, h.tidy, h.sA, h.sS, by have := h.len; omega, fun J e => by have := h.jn J e; omega, h.st⟩
theorem LInv.nil (h : LInv i D oj A S) : LInv i D none A S := ⟨h.ok, h.tidy, h.sA, h.sS, h.len, (fun _ e => by cases e), h.st.imp (fun h => ⟨h.1, fun _ e => by cases e⟩) (fun h => ⟨h.1, fun _ e => by cases e⟩)⟩
theorem LInv.init : LInv 0 Dsk.init none [] [] := ⟨Qt.init.ok, Qt.init.tidy, (fun _ h => by cases h), (fun _ h => by cases h), Nat.le_refl _, (fun _ e => by cases e), .inl ⟨⟨rfl, rfl, List.nil_prefix, List.nil_prefix⟩, fun _ e => by cases e⟩⟩
theorem LInv.pre (h : LInv i D oj A S) : S <+: A := by
  rcases h.st with ⟨r, _⟩ | ⟨q, _⟩
  · exact r.pre h.sA h.sS
  · obtain ⟨x, _, h1, h2⟩ := q.still
    exact h1.trans h2
theorem LInv.lose (h : LInv i D oj A S) {n : Int} (hn : I64 n) : LInv i (D.lose n) oj A S :=
  ⟨⟨h.ok.lens, h.ok.out, h.ok.q, h.ok.nodup, by show 0 ≤ max n 0 ∧ max n 0 ≤ _; unfold I64 at hn; omega, h.ok.armed, h.ok.keep⟩, h.tidy.same rfl rfl, h.sA, h.sS, h.len, h.jn,
    h.st.imp (fun h => ⟨⟨h.1.up, h.1.now, h.1.last, h.1.sure⟩, h.2⟩) (fun h => ⟨⟨h.1.still⟩, h.2⟩)⟩
theorem LInv.arm (h : LInv i D oj A S) {n : Int} (hn : I64 n) {keep : List Int} (hk : keep.length ≤ 1000) : LInv i (D.arm n keep) oj A S :=
  ⟨⟨h.ok.lens, h.ok.out, h.ok.q, h.ok.nodup, h.ok.lost, by show 0 ≤ max n 0 ∧ max n 0 ≤ _; unfold I64 at hn; omega, hk⟩, h.tidy.same rfl rfl, h.sA, h.sS, h.len, h.jn,
    h.st.imp (fun h => ⟨⟨h.1.up, h.1.now, h.1.last, h.1.sure⟩, h.2⟩) (fun h => ⟨⟨h.1.still⟩, h.2⟩)⟩
theorem LInv.start (h : LInv i D oj A S) : LInv i D.start oj A S :=
  ⟨⟨h.ok.lens, h.ok.out, h.ok.q, h.ok.nodup, h.ok.lost, h.ok.armed, h.ok.keep⟩, h.tidy.same rfl rfl, h.sA, h.sS, h.len, h.jn,
    h.st.imp (fun h => ⟨⟨rfl, h.1.now, h.1.last, h.1.sure⟩, h.2⟩) (fun h => ⟨⟨h.1.still⟩, h.2⟩)⟩
theorem LInv.crash (h : LInv i D oj A S) (keep : List Int) : LInv i (D.crash keep) none A S := by
  have hq : LQ (D.crash keep) A S ∧ ((D.crash keep).file 3).1.length ≤ (D.file 3).1.length := by
    rcases h.st with ⟨r, _⟩ | ⟨q, _⟩
    · exact r.crash h.ok h.tidy h.sA h.sS keep
    · exact q.crash keep
  exact ⟨h.ok.crash keep, h.tidy.crash keep, h.sA, h.sS, by have := h.len; omega, (fun _ e => by cases e), .inr ⟨hq.1, fun _ e => by cases e⟩⟩
/-! ### a call that may crash -/
theorem tick_same (D : Dsk) : D.tick.file = D.file ∧ D.tick.queue = D.queue ∧ D.tick.down = D.down ∧ D.tick.lost = D.lost := by
  unfold Dsk.tick; split <;> exact ⟨rfl, rfl, rfl, rfl⟩
theorem LR.tick (h : LR D A S) : LR D.tick A S := by
  obtain ⟨e1, _, e3, _⟩ := tick_same D
  exact ⟨e3.trans h.up, by rw [e1]; exact h.now, by rw [e1]; exact h.last, by rw [e1]; exact h.sure⟩
theorem ends_up (h : D.ends = true) : D.down = false := by
  unfold Dsk.ends at h
  simp only [Bool.and_eq_true, Bool.not_eq_true', Bool.or_eq_false_iff] at h
  exact h.1.1
theorem may3 (h : D.down = false) : D.may 3 = 0 := by
  unfold Dsk.may; rw [h, if_neg (by decide), if_neg (by decide)]
theorem may_dn (h : D.down = true) (f : Int) : D.may f = 8 := by
  unfold Dsk.may; rw [h, if_pos rfl]
theorem Ok.tick (h : D.Ok) : D.tick.Ok := by
  unfold Dsk.tick
  split
  · exact h
  · rename_i hh
    simp only [Bool.or_eq_true, beq_iff_eq, not_or] at hh
    exact ⟨h.lens, h.out, h.q, h.nodup, h.lost, by have := h.armed; show 0 ≤ D.armed - 1 ∧ D.armed - 1 ≤ _; omega, h.keep⟩
/-- the tick and the crash, if it comes -/
theorem tock_cases (h : LInv i D oj A S) : (D.ends = true ∧ LInv i D.tock none A S ∧ D.tock.down = true) ∨ (D.ends = false ∧ D.tock = D.tick ∧ LInv i D.tick oj A S) := by
  cases he : D.ends with
  | true =>
    refine .inl ⟨rfl, ?_, ?_⟩
    · unfold Dsk.tock; rw [he, if_pos rfl]
      have ht : LInv i D.tick oj A S := by
        obtain ⟨e1, e2, e3, _⟩ := tick_same D
        exact ⟨h.ok.tick, h.tidy.tick, h.sA, h.sS, by rw [e1]; exact h.len, h.jn, h.st.imp (fun h => ⟨h.1.tick, h.2⟩) (fun h => ⟨by
          obtain ⟨x, hx, h1, h2⟩ := h.1.still
          exact ⟨x, hx.tick, h1, h2⟩, h.2⟩)⟩
      exact ht.crash D.keep
    · unfold Dsk.tock; rw [he, if_pos rfl]
      have := ends_up he
      unfold Dsk.crash
      rw [(tick_same D).2.2.1, this]; rfl
  | false =>
    refine .inr ⟨rfl, by unfold Dsk.tock; rw [he]; rfl, ?_⟩
    obtain ⟨e1, e2, e3, _⟩ := tick_same D
    exact ⟨h.ok.tick, h.tidy.tick, h.sA, h.sS, by rw [e1]; exact h.len, h.jn, h.st.imp (fun h => ⟨h.1.tick, h.2⟩) (fun h => ⟨by
      obtain ⟨x, hx, h1, h2⟩ := h.1.still
      exact ⟨x, hx.tick, h1, h2⟩, h.2⟩)⟩
theorem settle3 (D : Dsk) (s : Str) : Dsk.Still (D.settle 3 s) 3 s := ⟨by
  show Dsk.setFile D.file 3 (s, s) 3 = (s, s)
  unfold Dsk.setFile; rw [if_pos rfl], fun p hp => by
  have : p ∈ D.queue.filter fun p => !(p.1 == 3) := hp
  have := (List.mem_filter.1 this).2
  simpa using this⟩
/-- Sync on file 3, as it ends -/
theorem sync3 (h : LInv i D oj A S) : ((D.sync 3).2 = 8 ∧ LInv i (D.sync 3).1 none A S ∧ (D.sync 3).1.down = true ∧ (D.down = true ∨ D.ends = true)) ∨ ((D.sync 3).2 = 9 ∧ LInv i (D.sync 3).1 oj A S ∧ 0 < D.lost) ∨
    ((D.sync 3).2 = 0 ∧ D.sync 3 = (D.tick.settle 3 (D.file 3).1, 0) ∧ D.down = false) := by
  obtain ⟨e1, e2, e3, e4⟩ := tick_same D
  rcases tock_cases h with ⟨he, ht, hd⟩ | ⟨he, htk, ht⟩
  · unfold Dsk.sync Dsk.sync0
    rw [if_pos (by rw [may_dn hd]; decide)]
    exact .inl ⟨may_dn hd 3, ht, hd, .inr he⟩
  · unfold Dsk.sync Dsk.sync0
    rw [htk]
    cases hd : D.down with
    | true =>
      have hd' : D.tick.down = true := e3.trans hd
      rw [if_pos (by rw [may_dn hd']; decide)]
      exact .inl ⟨may_dn hd' 3, ht.nil, hd', .inl rfl⟩
    | false =>
      have hd' : D.tick.down = false := e3.trans hd
      rw [if_neg (by rw [may3 hd']; decide)]
      by_cases hl : 0 < D.tick.lost
      · rw [if_pos hl]
        refine .inr (.inl ⟨rfl, ?_, e4 ▸ hl⟩)
        exact ⟨⟨ht.ok.lens, ht.ok.out, ht.ok.q, ht.ok.nodup, by have := ht.ok.lost; show 0 ≤ D.tick.lost - 1 ∧ D.tick.lost - 1 ≤ _; omega, ht.ok.armed, ht.ok.keep⟩, ht.tidy.same rfl rfl, ht.sA, ht.sS, ht.len, ht.jn,
          ht.st.imp (fun h => ⟨⟨h.1.up, h.1.now, h.1.last, h.1.sure⟩, h.2⟩) (fun h => ⟨⟨h.1.still⟩, h.2⟩)⟩
      · rw [if_neg hl]
        refine .inr (.inr ⟨rfl, by rw [e1], rfl⟩)
theorem lasts_sync (h : LInv i D (some J) A S) : ((J.sync D).2.2 = 0 → LInv i (J.sync D).1 (some (J.sync D).2.1) A (J.sync D).2.1.l) ∧ ((J.sync D).2.2 ≠ 0 → LInv i (J.sync D).1 (some (J.sync D).2.1) A S) ∧ (J.sync D).2.1.l = J.l := by
  obtain ⟨j1, j2, j3⟩ := h.jn J rfl
  unfold Jn.sync
  by_cases hbad : J.bad = true
  · rw [if_pos hbad]
    exact ⟨fun h => absurd (show (7 : Int) = 0 from h) (by decide), fun _ => h, rfl⟩
  rw [if_neg hbad, j1]
  have hR : LR D A S ∧ ∀ J', some J = some J' → J'.l = A ∧ J'.n = (forms A).length := by
    rcases h.st with h | ⟨_, h⟩
    · exact h
    · exact absurd (h J rfl) hbad
  obtain ⟨r, hJ⟩ := hR
  obtain ⟨a1, a2⟩ := hJ J rfl
  have okd : (D.sync 3).1.Ok := h.ok.sync 3
  have ted : (D.sync 3).1.Tidy := h.tidy.sync 3
  rcases sync3 h with ⟨e, hi, _, _⟩ | ⟨e, hi, _⟩ | ⟨e, hs, hd⟩
  · simp only [e]
    refine ⟨fun h => absurd h (by decide), fun _ => ?_, by trivial⟩
    refine ⟨hi.ok, hi.tidy, hi.sA, hi.sS, hi.len, fun J' e => by obtain rfl := Option.some.inj e; exact ⟨rfl, j2, j3⟩, ?_⟩
    rcases hi.st with ⟨r', _⟩ | ⟨q, _⟩
    · exact .inl ⟨r', fun J' e => by obtain rfl := Option.some.inj e; exact ⟨a1, a2⟩⟩
    · exact .inr ⟨q, fun J' e => by obtain rfl := Option.some.inj e; rfl⟩
  · simp only [e]
    refine ⟨fun h => absurd h (by decide), fun _ => ?_, by trivial⟩
    refine ⟨hi.ok, hi.tidy, hi.sA, hi.sS, hi.len, fun J' e => by obtain rfl := Option.some.inj e; exact ⟨rfl, j2, j3⟩, ?_⟩
    rcases hi.st with ⟨r', _⟩ | ⟨q, _⟩
    · exact .inl ⟨r', fun J' e => by obtain rfl := Option.some.inj e; exact ⟨a1, a2⟩⟩
    · exact .inr ⟨q, fun J' e => by obtain rfl := Option.some.inj e; rfl⟩
  · simp only [e]
    refine ⟨fun _ => ?_, fun h => absurd rfl h, by trivial⟩
    rw [hs] at okd ted
    have hst := settle3 D.tick (D.file 3).1
    rw [hs]
    refine ⟨okd, ted, h.sA, by rw [a1]; exact h.sA, ?_, fun J' e => by obtain rfl := Option.some.inj e; exact ⟨rfl, j2, j3⟩, .inl ⟨⟨?_, ?_, ?_, ?_⟩, fun J' e => by obtain rfl := Option.some.inj e; exact ⟨a1, a2⟩⟩⟩
    · show ((D.tick.settle 3 (D.file 3).1).file 3).1.length ≤ _
      rw [hst.1]; exact h.len
    · show D.tick.down = false
      exact (tick_same D).2.2.1.trans hd
    · show ((D.tick.settle 3 (D.file 3).1).file 3).1 = _
      rw [hst.1]; exact r.now
    · show ((D.tick.settle 3 (D.file 3).1).file 3).2 <+: ((D.tick.settle 3 (D.file 3).1).file 3).1
      rw [hst.1]; exact List.prefix_refl _
    · show forms J.l <+: ((D.tick.settle 3 (D.file 3).1).file 3).2
      rw [hst.1, a1, r.now]; exact List.prefix_refl _
theorem lasts_append (h : LInv i D (some J) A S) (hi : i ≤ 100) {t : Str} (ht : t.length ≤ 200) :
    ((J.append D t).2.2 = 0 ∧ (J.append D t).2.1.l = J.l ++ [t] ∧ LInv (i + 1) (J.append D t).1 (some (J.append D t).2.1) (A ++ [t]) S) ∨
    ((J.append D t).2.2 = 8 ∧ (J.append D t).2.1.l = J.l ∧ LInv (i + 1) (J.append D t).1 (some (J.append D t).2.1) (A ++ [t]) S) ∨
    ((J.append D t).2.2 = 7 ∧ (J.append D t).2.1.l = J.l ∧ LInv (i + 1) (J.append D t).1 (some (J.append D t).2.1) A S) := by
  obtain ⟨j1, j2, j3⟩ := h.jn J rfl
  have hfl := form_len (t := t) (by omega)
  have hfp := form_pos t
  unfold Jn.append
  by_cases hbad : J.bad = true
  · rw [if_pos hbad]
    exact .inr (.inr ⟨rfl, rfl, h.mono⟩)
  have e1 : ¬ 20000 < t.length := by omega
  have e2 : ¬ 1048576 < J.n + (form t).length := by omega
  rw [if_neg hbad, if_neg e1, if_neg e2, j1]
  have hR : LR D A S ∧ ∀ J', some J = some J' → J'.l = A ∧ J'.n = (forms A).length := by
    rcases h.st with h | ⟨_, h⟩
    · exact h
    · exact absurd (h J rfl) hbad
  obtain ⟨r, hJ⟩ := hR
  obtain ⟨a1, a2⟩ := hJ J rfl
  have rt := r.tick
  have hw0 : D.tick.write0 3 ((J.n : Nat) : Int) (form t) = (D.tick.add 3 J.n (form t), 0) := by
    unfold Dsk.write0
    rw [if_neg (by rw [may3 rt.up]; decide), if_neg (by omega), if_neg (by unfold Dsk.fits; omega)]
    rfl
  have hnow : ((D.tick.add 3 J.n (form t)).file 3).1 = forms (A ++ [t]) := by
    rw [add_file, rt.now, a2, put_end, forms_app, forms_one]
  have hlast : ((D.tick.add 3 J.n (form t)).file 3).2 = (D.tick.file 3).2 := by rw [Dsk.add_file]
  have hE : LR (D.tick.add 3 J.n (form t)) (A ++ [t]) S := by
    refine ⟨(Dsk.add_same _ _ _ _).1.trans rt.up, hnow, ?_, ?_⟩
    · rw [hlast, hnow, forms_app, forms_one]
      have := rt.last
      rw [rt.now] at this
      exact this.trans (List.prefix_append _ _)
    · rw [hlast]; exact rt.sure
  have okE : (D.tick.add 3 J.n (form t)).Ok := (Ok.tick h.ok).add (by decide) (by decide) (by omega)
  have teE : (D.tick.add 3 J.n (form t)).Tidy := h.tidy.tick.add _ _ _
  have sA' : ∀ x ∈ A ++ [t], x.length ≤ 20000 := fun x hx => by
    rcases List.mem_append.1 hx with hx | hx
    · exact h.sA x hx
    · rw [List.mem_singleton.1 hx]; omega
  have hlen : ((D.tick.add 3 J.n (form t)).file 3).1.length ≤ 300 * (i + 1) := by
    rw [hnow, forms_app, forms_one, List.length_append, ← a2]; omega
  cases he : D.ends with
  | false =>
    have hw : D.write 3 ((J.n : Nat) : Int) (form t) = (D.tick.add 3 J.n (form t), 0) := by unfold Dsk.write; rw [he, if_neg (by decide), hw0]
    rw [hw, if_neg (fun h => h rfl)]
    refine .inl ⟨rfl, rfl, okE, teE, sA', h.sS, hlen, fun J' e => ?_, .inl ⟨hE, fun J' e => ?_⟩⟩
    · obtain rfl := Option.some.inj e
      refine ⟨rfl, ?_, ?_⟩
      · show J.n + (form t).length ≤ _; omega
      · show (J.l ++ [t]).length ≤ J.n + (form t).length
        rw [List.length_append, List.length_singleton]; omega
    · obtain rfl := Option.some.inj e
      refine ⟨?_, ?_⟩
      · show J.l ++ [t] = _; rw [a1]
      · show J.n + (form t).length = _; rw [forms_app, forms_one, List.length_append, a2]
  | true =>
    have hw : D.write 3 ((J.n : Nat) : Int) (form t) = ((D.tick.add 3 J.n (form t)).crash (D.tick.add 3 J.n (form t)).keep, 8) := by unfold Dsk.write; rw [he, if_pos rfl, hw0]
    rw [hw, if_pos (show (8 : Int) ≠ 0 by decide)]
    obtain ⟨q, hq⟩ := hE.crash okE teE sA' h.sS (D.tick.add 3 J.n (form t)).keep
    refine .inr (.inl ⟨rfl, rfl, okE.crash _, teE.crash _, sA', h.sS, Nat.le_trans hq hlen, fun J' e => ?_, .inr ⟨q, fun J' e => ?_⟩⟩)
    · obtain rfl := Option.some.inj e
      exact ⟨rfl, by show J.n ≤ _; omega, j3⟩
    · obtain rfl := Option.some.inj e
      rfl
theorem ends_armed (h : D.ends = true) : D.armed ≠ 0 := fun e => by
  unfold Dsk.ends at h
  rw [e] at h
  simp at h
theorem read3 (h : D.down = false) : D.read 3 0 ((D.size 3 : Nat) : Int) = ((D.file 3).1, 0) := by
  unfold Dsk.read Dsk.readS Dsk.size
  rw [if_neg (by rw [may3 h]; decide), if_neg (by omega)]
  have e : (((D.file 3).1.length : Nat) : Int).toNat = (D.file 3).1.length := by omega
  rw [e, show (0 : Int).toNat = 0 from rfl, List.drop_zero, List.take_of_length_le (Nat.le_refl _)]
theorem lasts_open (h : LInv i D oj A S) (up : D.down = false) :
    (∃ J, (openJ D 3).2.2 = some J ∧ (openJ D 3).2.1 = 0 ∧ S <+: J.l ∧ J.l <+: A ∧ LInv i (openJ D 3).1 (some J) J.l J.l) ∨
    ((openJ D 3).2.2 = none ∧ ((openJ D 3).2.1 = 8 ∨ (openJ D 3).2.1 = 9) ∧ LInv i (openJ D 3).1 none A S ∧ ¬ (D.lost = 0 ∧ D.armed = 0)) := by
  rcases sync3 h with ⟨e, hi, _, hw⟩ | ⟨e, hi, hl⟩ | ⟨e, hs, _⟩
  · have ho : openJ D 3 = ((D.sync 3).1, 8, none) := by
      unfold openJ
      rw [if_neg (by decide), if_pos (by rw [e]; decide), e]
    rw [ho]
    refine .inr ⟨rfl, .inl rfl, hi, fun hh => ?_⟩
    rcases hw with hw | hw
    · rw [up] at hw; cases hw
    · exact ends_armed hw hh.2
  · have ho : openJ D 3 = ((D.sync 3).1, 9, none) := by
      unfold openJ
      rw [if_neg (by decide), if_pos (by rw [e]; decide), e]
    rw [ho]
    exact .inr ⟨rfl, .inr rfl, hi.nil, fun hh => by omega⟩
  · have okE := h.ok.sync 3
    have teE := h.tidy.sync 3
    rw [hs] at okE teE
    have okE' : (D.tick.settle 3 (D.file 3).1).Ok := okE
    have teE' : (D.tick.settle 3 (D.file 3).1).Tidy := teE
    have hst := settle3 D.tick (D.file 3).1
    have hP : S <+: recs (D.file 3).1 ∧ recs (D.file 3).1 <+: A := by
      rcases h.st with ⟨r, _⟩ | ⟨q, _⟩
      · rw [r.now, recs_forms A h.sA]
        exact ⟨r.pre h.sA h.sS, List.prefix_refl _⟩
      · obtain ⟨x, hx, h1, h2⟩ := q.still
        rw [hx.1]; exact ⟨h1, h2⟩
    have upE : (D.tick.settle 3 (D.file 3).1).down = false := (tick_same D).2.2.1.trans up
    have hE : LInv i (D.tick.settle 3 (D.file 3).1) none A S := ⟨okE', teE', h.sA, h.sS, by rw [hst.1]; exact h.len, (fun _ e => by cases e), .inr ⟨⟨_, hst, hP.1, hP.2⟩, (fun _ e => by cases e)⟩⟩
    have hrd := read3 upE
    have hf : ((D.tick.settle 3 (D.file 3).1).file 3).1 = (D.file 3).1 := by rw [hst.1]
    rw [hf] at hrd
    have hle := recs_le (D.file 3).1
    have hlen := h.len
    have sR : ∀ t ∈ recs (D.file 3).1, t.length ≤ 20000 := fun t ht => recs_short ht
    have key : ∀ G : Dsk, G.Ok → G.Tidy → G.down = false → Dsk.Still G 3 (forms (recs (D.file 3).1)) → LInv i G (some ⟨3, recs (D.file 3).1, (forms (recs (D.file 3).1)).length, false⟩) (recs (D.file 3).1) (recs (D.file 3).1) := by
      intro G g1 g2 g3 g4
      refine ⟨g1, g2, sR, sR, by rw [g4.1]; show (forms (recs (D.file 3).1)).length ≤ _; omega, fun J' e => ?_, .inl ⟨⟨g3, by rw [g4.1], by rw [g4.1]; exact List.prefix_refl _, by rw [g4.1]; exact List.prefix_refl _⟩, fun J' e => ?_⟩⟩
      · obtain rfl := Option.some.inj e
        exact ⟨rfl, by show (forms (recs (D.file 3).1)).length ≤ _; omega, forms_count _⟩
      · obtain rfl := Option.some.inj e
        exact ⟨rfl, rfl⟩
    by_cases hlt : (forms (recs (D.file 3).1)).length < (D.file 3).1.length
    · have htr : (D.tick.settle 3 (D.file 3).1).truncate 3 (((forms (recs (D.file 3).1)).length : Nat) : Int) = (D.tick.settle 3 (D.file 3).1).tock.truncate0 3 (((forms (recs (D.file 3).1)).length : Nat) : Int) := rfl
      rcases tock_cases hE with ⟨he, ht, hd⟩ | ⟨he, htk, ht⟩
      · have ht8 : (D.tick.settle 3 (D.file 3).1).truncate 3 (((forms (recs (D.file 3).1)).length : Nat) : Int) = ((D.tick.settle 3 (D.file 3).1).tock, 8) := by
          rw [htr]; unfold Dsk.truncate0; rw [if_pos (by rw [may_dn hd]; decide), may_dn hd]
        have ho : openJ D 3 = ((D.tick.settle 3 (D.file 3).1).tock, 8, none) := by
          unfold openJ
          rw [if_neg (by decide), hs, if_neg (fun h => h rfl)]
          simp only
          rw [hrd, if_neg (fun h => h rfl)]
          simp only
          rw [if_pos hlt, ht8, if_pos (show (8 : Int) ≠ 0 by decide)]
        rw [ho]
        refine .inr ⟨rfl, .inl rfl, ht, fun hh => ?_⟩
        have hn := ends_armed he
        have : (D.tick.settle 3 (D.file 3).1).armed = D.tick.armed := rfl
        rw [this] at hn
        unfold Dsk.tick at hn
        rw [hh.2] at hn
        simp at hn
        exact hn hh.2
      · have upT : (D.tick.settle 3 (D.file 3).1).tick.down = false := (tick_same _).2.2.1.trans upE
        have hft : ((D.tick.settle 3 (D.file 3).1).tick.file 3).1 = (D.file 3).1 := by rw [(tick_same _).1, hf]
        have ht0 : (D.tick.settle 3 (D.file 3).1).truncate 3 (((forms (recs (D.file 3).1)).length : Nat) : Int) = ((D.tick.settle 3 (D.file 3).1).tick.settle 3 (forms (recs (D.file 3).1)), 0) := by
          rw [htr, htk]; unfold Dsk.truncate0
          rw [if_neg (by rw [may3 upT]; decide), if_neg (by rw [hft]; omega), hft]
          have e : (((forms (recs (D.file 3).1)).length : Nat) : Int).toNat = (forms (recs (D.file 3).1)).length := by omega
          rw [e, recs_take]
        have ho : openJ D 3 = ((D.tick.settle 3 (D.file 3).1).tick.settle 3 (forms (recs (D.file 3).1)), 0, some ⟨3, recs (D.file 3).1, (forms (recs (D.file 3).1)).length, false⟩) := by
          unfold openJ
          rw [if_neg (by decide), hs, if_neg (fun h => h rfl)]
          simp only
          rw [hrd, if_neg (fun h => h rfl)]
          simp only
          rw [if_pos hlt, ht0, if_neg (fun h => h rfl)]
        rw [ho]
        have okT := okE'.truncate 3 (((forms (recs (D.file 3).1)).length : Nat) : Int)
        have teT := teE'.truncate 3 (((forms (recs (D.file 3).1)).length : Nat) : Int)
        rw [ht0] at okT teT
        exact .inl ⟨_, rfl, rfl, hP.1, hP.2, key _ okT teT upT (settle3 _ _)⟩
    · have e : (D.file 3).1 = forms (recs (D.file 3).1) := by
        have := recs_take (D.file 3).1
        rwa [List.take_of_length_le (by omega)] at this
      have ho : openJ D 3 = (D.tick.settle 3 (D.file 3).1, 0, some ⟨3, recs (D.file 3).1, (forms (recs (D.file 3).1)).length, false⟩) := by
        unfold openJ
        rw [if_neg (by decide), hs, if_neg (fun h => h rfl)]
        simp only
        rw [hrd, if_neg (fun h => h rfl)]
        simp only
        rw [if_neg hlt]
      rw [ho]
      exact .inl ⟨_, rfl, rfl, hP.1, hP.2, key _ okE' teE' upE (by rw [← e]; exact hst)⟩
end
end
end Go.Proofs.YtlnadcihnfppaaaDoor
