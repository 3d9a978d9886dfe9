/-
  Notes in memory, their needs somewhere apart; a store into an element of an own row. No condition.
-/
import Derived.Test.YtdcbjedkddgfkaaDoorSA
namespace Go.Proofs.YtdcbjedkddgfkaaDoor
set_option linter.unusedVariables false
set_option linter.unusedSimpArgs false
set_option linter.unusedSectionVars false
open Go.RowKit
def KN0 : Row NM := ⟨5, fun m => [.int .i64 m.h, .int .i64 m.n, .int .i64 m.d, .slice m.A m.l.length m.c, strV m.s], fun _ => True, fun _ => rfl, by decide, fun x u hu => by
 simp at hu
 rcases hu with rfl | rfl | rfl | rfl | rfl <;> rfl⟩
/-- a note whose needs lie in S -/
def okN (S : Nat → Prop) (w : World) (m : NM) : Prop := I64 m.h ∧ I64 m.n ∧ I64 m.d ∧ SliceOf S 2 KRef.R w (.slice m.A m.l.length m.c) m.l ∧ m.s.length ≤ maxLen
def OkNs (S : Nat → Prop) (w : World) (l : List NM) : Prop := ∀ m ∈ l, okN S w m
section
variable {S S' F : Nat → Prop} {w w' : World} {m : NM} {l : List NM} {v : Value} {base : Nat}
theorem okN.note (h : okN S w m) : (KNote w).ok m := ⟨h.1, h.2.1, h.2.2.1, SliceOf.pl h.2.2.2.1, h.2.2.2.2⟩
theorem okN.only (h : okN S w m) (o : Only F w w') (hS : ∀ k, S k → ¬ F k) : okN S w' m := ⟨h.1, h.2.1, h.2.2.1, SliceOf.kp h.2.2.2.1 o hS (fun _ _ _ _ h => h), h.2.2.2.2⟩
theorem okN.sup (h : okN S w m) (hS : ∀ k, S k → S' k) : okN S' w m := ⟨h.1, h.2.1, h.2.2.1, SliceOf.sup h.2.2.2.1 hS, h.2.2.2.2⟩
theorem okN.of (h : (KNote w).ok m) (g : SliceOf S 2 KRef.R w (.slice m.A m.l.length m.c) m.l) : okN S w m := ⟨h.1, h.2.1, h.2.2.1, g, h.2.2.2.2⟩
theorem okN.pl (h : okN S w m) : okN AllB w m := okN.of h.note (SliceOf.pl h.2.2.2.1)
theorem OkNs.only (h : OkNs S w l) (o : Only F w w') (hS : ∀ k, S k → ¬ F k) : OkNs S w' l := fun m hm => (h m hm).only o hS
theorem OkNs.k (h : OkNs S w l) (o : Only NoF w w') : OkNs S w' l := h.only o fun _ _ h => h
theorem OkNs.sup (h : OkNs S w l) (hS : ∀ k, S k → S' k) : OkNs S' w l := fun m hm => (h m hm).sup hS
theorem OkNs.pl (h : OkNs S w l) : OkNs AllB w l := fun m hm => (h m hm).pl
theorem OkNs.nil : OkNs S w [] := fun m hm => by cases hm
theorem OkNs.app (h : OkNs S w l) (hm : okN S w m) : OkNs S w (l ++ [m]) := fun x hx => by
 rcases List.mem_append.1 hx with hx | hx
 · exact h x hx
 · rw [List.mem_singleton.1 hx]; exact hm
theorem own_alt {v v' : Value} {b k : Nat} (al : v'.ownBlock = v.ownBlock ∨ v'.ownBlock = some b) (h : ownF v' k) : ownF v k ∨ k = b := by
 unfold ownF at h ⊢
 rcases al with al | al
 · rw [al] at h; exact .inl h
 · rw [al] at h; exact .inr (Option.some.inj h).symm
/-- a row is appended to: what lies apart from it lies apart from what it has become -/
theorem okN.grow {v' : Value} {b : Nat} (h : okN S w m) (o : Only (ownF v) w w') (hS : ∀ k, S k → ¬ ownF v k) (hb : w.heap.size ≤ b) (al : v'.ownBlock = v.ownBlock ∨ v'.ownBlock = some b) : okN (fun k => S k ∧ ¬ ownF v' k) w' m := by
 refine okN.only (F := ownF v) ?_ o fun k hk => hS k hk.1
 obtain ⟨h1, h2, h3, ⟨A, cap, xs, e, q1, q2, q3, q4⟩, h5⟩ := h
 refine ⟨h1, h2, h3, ⟨A, cap, xs, e, q1, q2, ⟨q3.1, fun hn => ?_⟩, q4⟩, h5⟩
 obtain ⟨ad, e, hg, hlt, hc⟩ := q3.2 hn
 refine ⟨ad, e, ⟨hg, fun h => ?_⟩, hlt, hc⟩
 rcases own_alt al h with h | h
 · exact hS _ hg h
 · omega
theorem OkNs.grow {v' : Value} {b : Nat} (h : OkNs S w l) (o : Only (ownF v) w w') (hS : ∀ k, S k → ¬ ownF v k) (hb : w.heap.size ≤ b) (al : v'.ownBlock = v.ownBlock ∨ v'.ownBlock = some b) : OkNs (fun k => S k ∧ ¬ ownF v' k) w' l := fun m hm => (h m hm).grow o hS hb al
/-- what came up behind a row lies apart from it -/
theorem okN.behind {w0 : World} {e : TypeId} {n : Nat} {xs : List Value} (h : okN (geB w0.heap.size) w m) (hr : w0.ownsRow base e 5 v n xs) : okN (fun k => w0.heap.size ≤ k ∧ ¬ ownF v k) w m :=
 h.sup fun k hk => ⟨hk, fun hF => by have := ownF_lt hr k hF; unfold geB at hk; omega⟩
theorem notes_of (h : w.ownsRow base 42 5 v l.length (l.flatMap KN0.cells)) (hn : OkNs S w l) : NotesV w w v l := SliceOf.pl (Row.own (KNote w) h fun m hm => (hn m hm).note)
theorem nt_ok (h : NotesV w w v l) : OkNs AllB w l := fun m hm => by
 have := Row.oks (KNote w) h m hm
 exact okN.of this this.2.2.2.1
end
/-! ### a store into an element -/
theorem splice_set (l : List Value) (i : Nat) (u : Value) (h : i < l.length) : splice l i [u] = l.set i u := by
 rw [List.set_eq_take_append_cons_drop, if_pos h]
 simp [splice]
theorem row_store {P : Program} {w : World} {t e : TypeId} {base size n' c k j : Nat} {A : Option Addr} {u : Value} {xs : List Value} (hS : ∀ w, (sizeOf t).run P w = .ok 1 w) (h1 : u.oneCell' = true) (hu : u.cells = [u].toArray)
 (hown : w.ownsRow base e size (.slice A n' c) n' xs) (hA : A.isSome = true) (hk : k < n') (hj : j < size) :
 ∃ w', (Instr.storeAt t (.pointer (some ((eA A size k).add j))) u).run P w = .ok () w' ∧ Only (ownF (.slice A n' c)) w w' ∧ w'.ownsRow base e size (.slice A n' c) n' (xs.set (k * size + j) u) := by
 obtain ⟨hl, ⟨e0, _⟩ | ⟨g, cap, cur, hv, hb, hh, hnc, hcm, hcs, ht⟩⟩ := hown
 · injection e0 with e1
   subst e1
   cases hA
 · injection hv with hv1 _ hv2
   subst hv1 hv2
   have hq : (eA (some ⟨g, 0, none⟩) size k).add j = ⟨g, k * size + j, none⟩ := by
    show ((⟨g, 0, none⟩ : Addr).add (k * size)).add j = _
    rw [Addr.add_lit, Addr.add_lit]; simp
   have hb1 : (k + 1) * size ≤ n' * size := Nat.mul_le_mul_right _ hk
   have hb2 : n' * size ≤ c * size := Nat.mul_le_mul_right _ hnc
   have hb3 : (k + 1) * size = k * size + size := Nat.succ_mul k size
   have hcl : cur.toList.length = c * size := by rw [Array.length_toList]; exact hcs
   have hlt : k * size + j < cur.toList.length := by rw [hcl]; omega
   rw [hq]
   obtain ⟨w', hr, ho, hB⟩ := run_store (P := P) (t := t) (e := e) (g := g) (off := k * size + j) (m := 1) (cs := cur.toList) (vs := [u]) hS hu rfl ⟨h1, trivial⟩ (by simpa [Blk] using hh) (by rw [Nat.ble_eq]; exact hlt) rfl
   refine ⟨w', hr, ?_, ⟨by rw [List.length_set]; exact hl, .inr ⟨g, c, _, rfl, hb, hB, hnc, hcm, ?_, ?_⟩⟩⟩
   · have e : (oneF g) = ownF (.slice (some ⟨g, 0, none⟩) n' c) := by
      funext x
      unfold oneF ownF Value.ownBlock
      simp [eq_comm]
     rwa [e] at ho
   · rw [splice_set _ _ _ hlt, List.size_toArray, List.length_set]; exact hcl
   · rw [splice_set _ _ _ hlt, ← ht]
     exact List.take_set
theorem LStE {P : Program} {ops : Array Oper} {Q : Exit → Act → World → Prop} {rest : List Oper} {a : Act} {w : World} {n : Nat} {l : List (Nat × Value)} {ty : TypeId} {pos : String} {aft : Array Edge} {x y : Operand} {t e : TypeId} {base size n' c k j : Nat} {A : Option Addr} {u : Value} {xs : List Value} {q : Addr} (hS : ∀ w, (sizeOf t).run P w = .ok 1 w) (H : Fr n l a) (hx : ev l x = some (.pointer (some q))) (hq : q = (eA A size k).add j) (hy : ev l y = some u) (h1 : u.oneCell' = true) (hu : u.cells = [u].toArray)
 (hown : w.ownsRow base e size (.slice A n' c) n' xs) (hA : A.isSome = true) (hk : k < n') (hj : j < size)
 (h : ∀ w', Only (ownF (.slice A n' c)) w w' → w'.ownsRow base e size (.slice A n' c) n' (xs.set (k * size + j) u) → wpList P ops Q rest a w') :
 wpList P ops Q (⟨none, .store t x y, ty, pos, aft, none⟩ :: rest) a w := by
 subst hq
 obtain ⟨w', hr, h2, h3⟩ := row_store (P := P) hS h1 hu hown hA hk hj
 refine LS (w' := w') ?_ (h w' h2 h3)
 simp only [execOp, H.eval hx, H.eval hy, Sem.run_bind, hr, Result.andThen_ok, Sem.run_pure]
theorem flat_set {A : Option Addr} {c : Nat} : ∀ (l : List NM) (k : Nat) (m : NM), l[k]? = some m → (l.flatMap KN0.cells).set (k * 5 + 3) (.slice A m.l.length c) = (l.set k ⟨m.h, m.n, m.d, A, m.l, c, m.s⟩).flatMap KN0.cells
 | [], k, m, h => by simp at h
 | x :: l, 0, m, h => by
  simp at h
  subst h
  rfl
 | x :: l, k + 1, m, h => by
  have ih := flat_set (A := A) (c := c) l k m (by simpa using h)
  show (KN0.cells x ++ l.flatMap KN0.cells).set ((k + 1) * 5 + 3) _ = KN0.cells x ++ (l.set k _).flatMap KN0.cells
  rw [← ih, show (k + 1) * 5 + 3 = (k * 5 + 3) + 5 by omega]
  rfl
end Go.Proofs.YtdcbjedkddgfkaaDoor
