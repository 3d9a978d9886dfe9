/-
  Notes in memory, their needs somewhere apart; a store into an element of an own row. No condition.
  The store: what opening, writing and telling compute, in plain Lean. No condition.
  The store: read, All, SameChain, walked. Condition: records of at most 20,000 bytes, at most 1000 notes.
  The store in memory; Open, Write, Tell, walked. Conditions: the listed variables, and those that each names.
-/
import Derived.Test.YtdegmpigkgkafaaGreatDoorSA
import Derived.Test.YtdegmpigkgkafaaGreatDoorSOrder
import Derived.Test.YtdegmpigkgkafaaGreatDoorZA
import Derived.Test.YtdegmpigkgkafaaGreatDoorSR
import Derived.Test.YtdegmpigkgkafaaGreatDoorJC
import Derived.Test.YtdegmpigkgkafaaGreatDoorVq
namespace Go.Proofs.YtdegmpigkgkafaaGreatDoor
set_option maxHeartbeats 4000000
set_option maxRecDepth 20000
set_option linter.unusedVariables false
set_option linter.unusedSimpArgs false
set_option linter.unusedSectionVars false
section
open Go.RowKit
def KN0 : Row NM := ⟨5, fun m => [.int .i64 m.h, .int .i64 m.n, .int .i64 m.d, .slice m.A m.l.length m.c, strV m.s], fun _ => True, fun _ => rfl, by decide, fun x u hu => by
 simp at hu
 rcases hu with rfl | rfl | rfl | rfl | rfl <;> rfl⟩
/-- a note whose needs lie in S -/
def okN (S : Nat → Prop) (w : World) (m : NM) : Prop := I64 m.h ∧ I64 m.n ∧ I64 m.d ∧ SliceOf S 2 KRef.R w (.slice m.A m.l.length m.c) m.l ∧ m.s.length ≤ maxLen
def OkNs (S : Nat → Prop) (w : World) (l : List NM) : Prop := ∀ m ∈ l, okN S w m
section
variable {S S' F : Nat → Prop} {w w' : World} {m : NM} {l : List NM} {v : Value} {base : Nat}
theorem okN.note (h : okN S w m) : (KNote w).ok m := ⟨h.1, h.2.1, h.2.2.1, SliceOf.pl h.2.2.2.1, h.2.2.2.2⟩
theorem okN.only (h : okN S w m) (o : Only F w w') (hS : ∀ k, S k → ¬ F k) : okN S w' m := ⟨h.1, h.2.1, h.2.2.1, SliceOf.kp h.2.2.2.1 o hS (fun _ _ _ _ h => h), h.2.2.2.2⟩
theorem okN.sup (h : okN S w m) (hS : ∀ k, S k → S' k) : okN S' w m := ⟨h.1, h.2.1, h.2.2.1, SliceOf.sup h.2.2.2.1 hS, h.2.2.2.2⟩
theorem okN.of (h : (KNote w).ok m) (g : SliceOf S 2 KRef.R w (.slice m.A m.l.length m.c) m.l) : okN S w m := ⟨h.1, h.2.1, h.2.2.1, g, h.2.2.2.2⟩
theorem OkNs.only (h : OkNs S w l) (o : Only F w w') (hS : ∀ k, S k → ¬ F k) : OkNs S w' l := fun m hm => (h m hm).only o hS
theorem OkNs.k (h : OkNs S w l) (o : Only NoF w w') : OkNs S w' l := h.only o fun _ _ h => h
theorem OkNs.sup (h : OkNs S w l) (hS : ∀ k, S k → S' k) : OkNs S' w l := fun m hm => (h m hm).sup hS
theorem OkNs.nil : OkNs S w [] := fun m hm => by cases hm
theorem OkNs.app (h : OkNs S w l) (hm : okN S w m) : OkNs S w (l ++ [m]) := fun x hx => by
 rcases List.mem_append.1 hx with hx | hx
 · exact h x hx
 · rw [List.mem_singleton.1 hx]; exact hm
theorem own_alt {v v' : Value} {b k : Nat} (al : v'.ownBlock = v.ownBlock ∨ v'.ownBlock = some b) (h : ownF v' k) : ownF v k ∨ k = b := by
 unfold ownF at h ⊢
 rcases al with al | al
 · rw [al] at h; exact .inl h
 · rw [al] at h; exact .inr (Option.some.inj h).symm
/-- a row is appended to: what lies apart from it lies apart from what it has become -/
theorem okN.grow {v' : Value} {b : Nat} (h : okN S w m) (o : Only (ownF v) w w') (hS : ∀ k, S k → ¬ ownF v k) (hb : w.heap.size ≤ b) (al : v'.ownBlock = v.ownBlock ∨ v'.ownBlock = some b) : okN (fun k => S k ∧ ¬ ownF v' k) w' m := by
 refine okN.only (F := ownF v) ?_ o fun k hk => hS k hk.1
 obtain ⟨h1, h2, h3, ⟨A, cap, xs, e, q1, q2, q3, q4⟩, h5⟩ := h
 refine ⟨h1, h2, h3, ⟨A, cap, xs, e, q1, q2, ⟨q3.1, fun hn => ?_⟩, q4⟩, h5⟩
 obtain ⟨ad, e, hg, hlt, hc⟩ := q3.2 hn
 refine ⟨ad, e, ⟨hg, fun h => ?_⟩, hlt, hc⟩
 rcases own_alt al h with h | h
 · exact hS _ hg h
 · omega
theorem OkNs.grow {v' : Value} {b : Nat} (h : OkNs S w l) (o : Only (ownF v) w w') (hS : ∀ k, S k → ¬ ownF v k) (hb : w.heap.size ≤ b) (al : v'.ownBlock = v.ownBlock ∨ v'.ownBlock = some b) : OkNs (fun k => S k ∧ ¬ ownF v' k) w' l := fun m hm => (h m hm).grow o hS hb al
/-- what came up behind a row lies apart from it -/
theorem okN.behind {w0 : World} {e : TypeId} {n : Nat} {xs : List Value} (h : okN (geB w0.heap.size) w m) (hr : w0.ownsRow base e 5 v n xs) : okN (fun k => w0.heap.size ≤ k ∧ ¬ ownF v k) w m :=
 h.sup fun k hk => ⟨hk, fun hF => by have := ownF_lt hr k hF; unfold geB at hk; omega⟩
theorem notes_of (h : w.ownsRow base 51 5 v l.length (l.flatMap KN0.cells)) (hn : OkNs S w l) : NotesV w w v l := SliceOf.pl (Row.own (KNote w) h fun m hm => (hn m hm).note)
theorem nt_ok (h : NotesV w w v l) : OkNs AllB w l := fun m hm => by
 have := Row.oks (KNote w) h m hm
 exact okN.of this this.2.2.2.1
end
/-! ### a store into an element -/
theorem splice_set (l : List Value) (i : Nat) (u : Value) (h : i < l.length) : splice l i [u] = l.set i u := by
 rw [List.set_eq_take_append_cons_drop, if_pos h]
 simp [splice]
theorem row_store {P : Program} {w : World} {t e : TypeId} {base size n' c k j : Nat} {A : Option Addr} {u : Value} {xs : List Value} (hS : ∀ w, (sizeOf t).run P w = .ok 1 w) (h1 : u.oneCell' = true) (hu : u.cells = [u].toArray)
 (hown : w.ownsRow base e size (.slice A n' c) n' xs) (hA : A.isSome = true) (hk : k < n') (hj : j < size) :
 ∃ w', (Instr.storeAt t (.pointer (some ((eA A size k).add j))) u).run P w = .ok () w' ∧ Only (ownF (.slice A n' c)) w w' ∧ w'.ownsRow base e size (.slice A n' c) n' (xs.set (k * size + j) u) := by
 obtain ⟨hl, ⟨e0, _⟩ | ⟨g, cap, cur, hv, hb, hh, hnc, hcm, hcs, ht⟩⟩ := hown
 · injection e0 with e1
   subst e1
   cases hA
 · injection hv with hv1 _ hv2
   subst hv1 hv2
   have hq : (eA (some ⟨g, 0, none⟩) size k).add j = ⟨g, k * size + j, none⟩ := by
    show ((⟨g, 0, none⟩ : Addr).add (k * size)).add j = _
    rw [Addr.add_lit, Addr.add_lit]; simp
   have hb1 : (k + 1) * size ≤ n' * size := Nat.mul_le_mul_right _ hk
   have hb2 : n' * size ≤ c * size := Nat.mul_le_mul_right _ hnc
   have hb3 : (k + 1) * size = k * size + size := Nat.succ_mul k size
   have hcl : cur.toList.length = c * size := by rw [Array.length_toList]; exact hcs
   have hlt : k * size + j < cur.toList.length := by rw [hcl]; omega
   rw [hq]
   obtain ⟨w', hr, ho, hB⟩ := run_store (P := P) (t := t) (e := e) (g := g) (off := k * size + j) (m := 1) (cs := cur.toList) (vs := [u]) hS hu rfl ⟨h1, trivial⟩ (by simpa [Blk] using hh) (by rw [Nat.ble_eq]; exact hlt) rfl
   refine ⟨w', hr, ?_, ⟨by rw [List.length_set]; exact hl, .inr ⟨g, c, _, rfl, hb, hB, hnc, hcm, ?_, ?_⟩⟩⟩
   · have e : (oneF g) = ownF (.slice (some ⟨g, 0, none⟩) n' c) := by
      funext x
      unfold oneF ownF Value.ownBlock
      simp [eq_comm]
     rwa [e] at ho
   · rw [splice_set _ _ _ hlt, List.size_toArray, List.length_set]; exact hcl
   · rw [splice_set _ _ _ hlt, ← ht]
     exact List.take_set
theorem LStE {P : Program} {ops : Array Oper} {Q : Exit → Act → World → Prop} {rest : List Oper} {a : Act} {w : World} {n : Nat} {l : List (Nat × Value)} {ty : TypeId} {pos : String} {aft : Array Edge} {x y : Operand} {t e : TypeId} {base size n' c k j : Nat} {A : Option Addr} {u : Value} {xs : List Value} {q : Addr} (hS : ∀ w, (sizeOf t).run P w = .ok 1 w) (H : Fr n l a) (hx : ev l x = some (.pointer (some q))) (hq : q = (eA A size k).add j) (hy : ev l y = some u) (h1 : u.oneCell' = true) (hu : u.cells = [u].toArray)
 (hown : w.ownsRow base e size (.slice A n' c) n' xs) (hA : A.isSome = true) (hk : k < n') (hj : j < size)
 (h : ∀ w', Only (ownF (.slice A n' c)) w w' → w'.ownsRow base e size (.slice A n' c) n' (xs.set (k * size + j) u) → wpList P ops Q rest a w') :
 wpList P ops Q (⟨none, .store t x y, ty, pos, aft, none⟩ :: rest) a w := by
 subst hq
 obtain ⟨w', hr, h2, h3⟩ := row_store (P := P) hS h1 hu hown hA hk hj
 refine LS (w' := w') ?_ (h w' h2 h3)
 simp only [execOp, H.eval hx, H.eval hy, Sem.run_bind, hr, Result.andThen_ok, Sem.run_pure]
theorem flat_set {A : Option Addr} {c : Nat} : ∀ (l : List NM) (k : Nat) (m : NM), l[k]? = some m → (l.flatMap KN0.cells).set (k * 5 + 3) (.slice A m.l.length c) = (l.set k ⟨m.h, m.n, m.d, A, m.l, c, m.s⟩).flatMap KN0.cells
 | [], k, m, h => by simp at h
 | x :: l, 0, m, h => by
  simp at h
  subst h
  rfl
 | x :: l, k + 1, m, h => by
  have ih := flat_set (A := A) (c := c) l k m (by simpa using h)
  show (KN0.cells x ++ l.flatMap KN0.cells).set ((k + 1) * 5 + 3) _ = KN0.cells x ++ (l.set k _).flatMap KN0.cells
  rw [← ih, show (k + 1) * 5 + 3 = (k * 5 + 3) + 5 by omega]
  rfl
end
section
open Go.RowKit
deriving instance DecidableEq for NM
/-- a note without its place -/
def ns (m : NM) : NM := ⟨m.h, m.n, m.d, none, m.l, 0, m.s⟩
def goodL (h : Int) (l : List Str) : Bool := l.all decOk && decide (check (l.map decN) = 0) && (l.map decN).all (fun m => decide (m.h = h))
def openS (D : Dsk) (h : Int) : Dsk × Int × Option Jn :=
 if h < 0 ∨ 400 ≤ h then (D, 1, none)
 else match (openJ D 0).2.2 with
  | none => ((openJ D 0).1, (openJ D 0).2.1, none)
  | some J => if goodL h J.l = true then ((openJ D 0).1, 0, some J) else ((openJ D 0).1, 2, none)
abbrev newN (h : Int) (l : List Str) (d : Int) (q : List RM) (t : Str) : NM := ⟨h, ((l.length : Nat) : Int), d, none, q, 0, t⟩
def Jn.writeS (J : Jn) (D : Dsk) (h d : Int) (q : List RM) (t : Str) : Dsk × Jn × Int :=
 if check (J.l.map decN ++ [newN h J.l d q t]) = 0 then J.append D (encN (newN h J.l d q t)) else (D, J, check (J.l.map decN ++ [newN h J.l d q t]))
theorem right_ns (m : NM) : right (ns m) = right m := by unfold right headBad ns; rfl
theorem enc_ns (m : NM) : encN (ns m) = encN m := by simp only [encN, ns]
theorem chk_ns {h0 : Int} : ∀ (l : List NM) (i : Nat) (d : Int), chk h0 i d (l.map ns) = chk h0 i d l
 | [], _, _ => rfl
 | m :: l, i, d => by
  show (if right (ns m) = false then 1 else if (ns m).h ≠ h0 then 19 else if (i : Int) < (ns m).n then 21 else if (ns m).n < (i : Int) then 5 else if (ns m).d < d then 18 else chk h0 (i + 1) (ns m).d (l.map ns)) = _
  rw [chk_ns l, right_ns]; rfl
theorem check_ns (l : List NM) : check (l.map ns) = check l := by
 have e : hdH (l.map ns) = hdH l := by cases l <;> rfl
 unfold check
 rw [e, chk_ns, List.length_map]
theorem check_eq {l l2 : List NM} (h : l.map ns = l2) : check l = check l2 := by rw [← h, check_ns]
theorem check_app {L N : List NM} {h d : Int} {q : List RM} {t : Str} (e : L.map ns = N) : check (L ++ [(⟨h, ((L.length : Nat) : Int), d, none, q, 0, t⟩ : NM)]) = check (N ++ [(⟨h, ((N.length : Nat) : Int), d, none, q, 0, t⟩ : NM)]) := by
 subst e
 rw [← check_ns, List.map_append, List.length_map]; rfl
theorem check_len {l : List NM} (h : check l = 0) : l.length ≤ 400 := by
 unfold check at h
 split at h
 · cases h
 · omega
theorem good_iff {h : Int} {l : List Str} : goodL h l = true ↔ l.all decOk = true ∧ check (l.map decN) = 0 ∧ ∀ m ∈ l.map decN, m.h = h := by
 unfold goodL
 simp only [Bool.and_eq_true, decide_eq_true_eq, List.all_eq_true, and_assoc]
theorem good_len {h : Int} {l : List Str} (g : goodL h l = true) : l.length ≤ 400 := by
 have := check_len (good_iff.1 g).2.1
 rwa [List.length_map] at this
theorem hd_all {l : List NM} (hc : check l = 0) : ∀ m ∈ l, m.h = hdH l := by
 intro m hm
 obtain ⟨k, hk⟩ := List.getElem?_of_mem hm
 exact (check_zero hc k m hk).2.1
theorem good_hd {h : Int} {l : List Str} (ho : l.all decOk = true) (hc : check (l.map decN) = 0) : goodL h l = true ↔ (l = [] ∨ hdH (l.map decN) = h) := by
 rw [good_iff]
 constructor
 · rintro ⟨_, _, h3⟩
   cases l with
   | nil => exact .inl rfl
   | cons t l => exact .inr (h3 (decN t) (by simp))
 · intro h1
   refine ⟨ho, hc, fun m hm => ?_⟩
   rcases h1 with rfl | h1
   · cases hm
   · rw [hd_all hc m hm, h1]
/-! ### what stays true of a store -/
def SI (h : Int) (J : Jn) : Prop := JI J ∧ goodL h J.l = true
theorem ji_app {J : Jn} (h : JI J) (D : Dsk) (t : Str) : JI (J.append D t).2.1 := by
 obtain ⟨h1, h2, h3⟩ := h
 unfold Jn.append
 split
 · exact ⟨h1, h2, h3⟩
 split
 · exact ⟨h1, h2, h3⟩
 split
 · exact ⟨h1, h2, h3⟩
 split
 · exact ⟨h1, h2, h3⟩
 · rename_i ht _ h4 _
   refine ⟨?_, fun x hx => ?_, ?_⟩
   · show J.n + (form t).length = (forms (J.l ++ [t])).length
     rw [forms_app, forms_one, List.length_append, h1]
   · rcases List.mem_append.1 hx with hx | hx
     · exact h2 x hx
     · rw [List.mem_singleton.1 hx]; omega
   · show J.n + (form t).length ≤ _
     omega
theorem app_l (J : Jn) (D : Dsk) (t : Str) : ((J.append D t).2.2 ≠ 0 ∧ (J.append D t).2.1.l = J.l) ∨ ((J.append D t).2.2 = 0 ∧ (J.append D t).2.1.l = J.l ++ [t]) := by
 unfold Jn.append
 split
 · exact .inl ⟨(by decide : (7 : Int) ≠ 0), rfl⟩
 split
 · exact .inl ⟨(by decide : (3 : Int) ≠ 0), rfl⟩
 split
 · exact .inl ⟨(by decide : (6 : Int) ≠ 0), rfl⟩
 split
 · rename_i h; exact .inl ⟨h, rfl⟩
 · exact .inr ⟨rfl, rfl⟩
theorem sync_l (J : Jn) (D : Dsk) : (J.sync D).2.1.l = J.l := by
 unfold Jn.sync
 split <;> rfl
theorem si_sync {h : Int} {J : Jn} (s : SI h J) (D : Dsk) : SI h (J.sync D).2.1 := ⟨s.1.sync D, by rw [sync_l]; exact s.2⟩
theorem si_open {D : Dsk} (hD : D.Ok) {h : Int} {J : Jn} (e : (openS D h).2.2 = some J) : SI h J := by
 unfold openS at e
 split at e
 · cases e
 · cases hj : (openJ D 0).2.2 with
   | none => rw [hj] at e; cases e
   | some J2 =>
    rw [hj] at e
    by_cases hg : goodL h J2.l = true
    · simp only [hg, if_true] at e
      rw [← Option.some.inj e]
      exact ⟨ji_open hD hj, hg⟩
    · simp only [hg, if_false] at e
      cases e
theorem new_right {h d : Int} {q : List RM} {t : Str} {l : List Str} (hz : check (l.map decN ++ [newN h l d q t]) = 0) : right (newN h l d q t) = true ∧ hdH (l.map decN ++ [newN h l d q t]) = h := by
 have := check_zero hz l.length (newN h l d q t) (by simp)
 exact ⟨this.1, this.2.1.symm⟩
theorem new_dec {h d : Int} {q : List RM} {t : Str} {l : List Str} (hq : ∀ r ∈ q, I64 r.h ∧ I64 r.n) (hz : check (l.map decN ++ [newN h l d q t]) = 0) : decOk (encN (newN h l d q t)) = true ∧ decN (encN (newN h l d q t)) = newN h l d q t :=
 dec_enc (new_right hz).1 fun r hr => hq r hr
theorem good_app {h d : Int} {q : List RM} {t : Str} {l : List Str} (g : goodL h l = true) (hq : ∀ r ∈ q, I64 r.h ∧ I64 r.n) (hz : check (l.map decN ++ [newN h l d q t]) = 0) : goodL h (l ++ [encN (newN h l d q t)]) = true := by
 obtain ⟨d1, d2⟩ := new_dec hq hz
 obtain ⟨g1, g2, g3⟩ := good_iff.1 g
 rw [good_iff]
 refine ⟨?_, ?_, ?_⟩
 · rw [List.all_append, g1]; simp [d1]
 · rw [List.map_append, List.map_singleton, d2]; exact hz
 · intro m hm
   rw [List.map_append, List.map_singleton, d2] at hm
   rcases List.mem_append.1 hm with hm | hm
   · exact g3 m hm
   · rw [List.mem_singleton.1 hm]
theorem si_write {h : Int} {J : Jn} (s : SI h J) (D : Dsk) {d : Int} {q : List RM} {t : Str} (hq : ∀ r ∈ q, I64 r.h ∧ I64 r.n) : SI h (J.writeS D h d q t).2.1 := by
 unfold Jn.writeS
 split
 · rename_i hz
   refine ⟨ji_app s.1 D _, ?_⟩
   rcases app_l J D (encN (newN h J.l d q t)) with ⟨_, e⟩ | ⟨_, e⟩
   · rw [e]; exact s.2
   · rw [e]; exact good_app s.2 hq hz
 · exact s
theorem si_len {h : Int} {J : Jn} (s : SI h J) : J.l.length ≤ 400 := good_len s.2
theorem openJ_none {D : Dsk} {f : Int} (h : (openJ D f).2.2 = none) : (openJ D f).2.1 ≠ 0 := by
 unfold openJ at h ⊢
 split
 · exact (by decide : (1 : Int) ≠ 0)
 split
 · assumption
 split
 · assumption
 split
 · split
   · assumption
   · rename_i a b c e f
     rw [if_neg a, if_neg b, if_neg c, if_pos e, if_neg f] at h; cases h
 · rename_i a b c e
   rw [if_neg a, if_neg b, if_neg c, if_neg e] at h; cases h
theorem openJ_some {D : Dsk} {f : Int} {J : Jn} (h : (openJ D f).2.2 = some J) : (openJ D f).2.1 = 0 := by
 unfold openJ at h ⊢
 split
 · rename_i a; rw [if_pos a] at h; cases h
 split
 · rename_i a b; rw [if_neg a, if_pos b] at h; cases h
 split
 · rename_i a b c; rw [if_neg a, if_neg b, if_pos c] at h; cases h
 split
 · split
   · rename_i a b c e f; rw [if_neg a, if_neg b, if_neg c, if_pos e, if_pos f] at h; cases h
   · rfl
 · rfl
end
section
open Go.RowKit
section
variable {l l2 : List NM} {k : Nat} {m m2 : NM}
theorem same_ns : same m m2 = true ↔ ns m = ns m2 := by
 unfold same ns
 simp only [Bool.and_eq_true, decide_eq_true_eq, NM.mk.injEq]
 constructor
 · rintro ⟨⟨⟨⟨h1, h2⟩, h3⟩, h4⟩, h5⟩; exact ⟨h1, h2, h3, trivial, h4, trivial, h5⟩
 · rintro ⟨h1, h2, h3, _, h4, _, h5⟩; exact ⟨⟨⟨⟨h1, h2⟩, h3⟩, h4⟩, h5⟩
theorem sc_len (h : (!decide (((l.length : Nat) : Int) = ((l2.length : Nat) : Int))) = true) : decide (l.map ns = l2.map ns) = false := by
 refine decide_eq_false fun e => ?_
 have := congrArg List.length e
 rw [List.length_map, List.length_map] at this
 rw [this] at h; simp at h
theorem sc_len2 (h : (!decide (((l.length : Nat) : Int) = ((l2.length : Nat) : Int))) = false) : l.length = l2.length := by
 have := of_decide_eq_true (nt_f h); omega
theorem sc_step (hm : l[k]? = some m) (hm2 : l2[k]? = some m2) (hs : (l.take k).map ns = (l2.take k).map ns) (h : (!same m m2) = false) : (l.take (k + 1)).map ns = (l2.take (k + 1)).map ns := by
 rw [take_succ_get hm, take_succ_get hm2, List.map_append, List.map_append, hs, List.map_singleton, List.map_singleton, same_ns.1 (nt_f h)]
theorem sc_no (hm : l[k]? = some m) (hm2 : l2[k]? = some m2) (h : (!same m m2) = true) : decide (l.map ns = l2.map ns) = false := by
 refine decide_eq_false fun e => ?_
 have := congrArg (fun x => x[k]?) e
 simp only [List.getElem?_map, hm, hm2, Option.map_some, Option.some.injEq] at this
 rw [same_ns.2 this] at h; cases h
theorem sc_yes (hl : l.length = l2.length) (hk : l.length ≤ k) (hs : (l.take k).map ns = (l2.take k).map ns) : decide (l.map ns = l2.map ns) = true := by
 rw [List.take_of_length_le hk, List.take_of_length_le (by omega)] at hs
 exact decide_eq_true hs
theorem opfew_step2 {p : NM → Prop} (hm : l[k]? = some m) (h : ∀ x ∈ l.take k, p x) (h1 : p m) : ∀ x ∈ l.take (k + 1), p x := by
 rw [take_succ_get hm]
 intro x hx
 rcases List.mem_append.1 hx with hx | hx
 · exact h x hx
 · rw [List.mem_singleton.1 hx]; exact h1
end
section
variable {l : List Str} {k : Nat} {t : Str} {O : List NM} {m : NM}
theorem dec_step (hm : l[k]? = some t) (h : ∀ x ∈ l.take k, decOk x = true) (h1 : decOk t = true) : ∀ x ∈ l.take (k + 1), decOk x = true := by
 rw [take_succ_get hm]
 intro x hx
 rcases List.mem_append.1 hx with hx | hx
 · exact h x hx
 · rw [List.mem_singleton.1 hx]; exact h1
theorem dn_step (hm : l[k]? = some t) (hO : O.map ns = (l.take k).map decN) (e1 : m.h = (decN t).h) (e2 : m.n = (decN t).n) (e3 : m.d = (decN t).d) (e4 : m.l = (decN t).l) (e5 : m.s = (decN t).s) : (O ++ [m]).map ns = (l.take (k + 1)).map decN := by
 rw [take_succ_get hm, List.map_append, List.map_append, hO, List.map_singleton, List.map_singleton]
 have : ns m = decN t := by
  unfold ns
  rw [e1, e2, e3, e4, e5]; rfl
 rw [this]
theorem all_f (hm : l[k]? = some t) (h : decOk t = false) : l.all decOk = false := by
 rw [List.all_eq_false]
 exact ⟨t, List.mem_of_getElem? hm, by rw [h]; decide⟩
theorem all_t (h : ∀ t ∈ l, decOk t = true) : l.all decOk = true := List.all_eq_true.2 h
end
def NotesTo (l : List Str) (w : World) (e : Ending) (w' : World) : Prop := ∃ A c L, e = .returned (.tuple #[.slice A L.length c, .bool (l.all decOk)]) ∧ w'.ownsRow w.heap.size 51 5 (.slice A L.length c) L.length (L.flatMap KN0.cells) ∧
 OkNs (fun k => w.heap.size ≤ k ∧ ¬ ownF (.slice A L.length c) k) w' L ∧ (l.all decOk = true → L.map ns = l.map decN) ∧ Only NoF w w'
def AllN (N : List NM) (w : World) (e : Ending) (w' : World) : Prop := ∃ A c L, e = .returned (.slice A L.length c) ∧ L.map ns = N ∧ w'.ownsRow w.heap.size 51 5 (.slice A L.length c) L.length (L.flatMap KN0.cells) ∧
 OkNs (fun k => w.heap.size ≤ k ∧ ¬ ownF (.slice A L.length c) k) w' L ∧ Only NoF w w'
def IdxN (h : Int) (l : List NM) (w : World) (e : Ending) (w' : World) : Prop := ∃ i : Int, e = .returned (.int .i64 i) ∧ Only NoF w w' ∧ ((i = -1 ∧ ∀ m ∈ l, m.h = h) ∨ (0 ≤ i ∧ ∃ m ∈ l, ¬ m.h = h))
theorem any_idx {h i : Int} {l : List NM} (q : (i = -1 ∧ ∀ m ∈ l, m.h = h) ∨ (0 ≤ i ∧ ∃ m ∈ l, ¬ m.h = h)) : (l.any fun m => !decide (m.h = h)) = decide (0 ≤ i) := by
 rcases q with ⟨rfl, q⟩ | ⟨q, m, hm, h1⟩
 · rw [show decide ((0 : Int) ≤ -1) = false from rfl, List.any_eq_false]
   intro m hm; simp [q m hm]
 · rw [decide_eq_true q, List.any_eq_true]
   exact ⟨m, hm, by simp [h1]⟩
section
variable {P : Program} {ops : Array Oper} {Q : Exit → Act → World → Prop} {rest : List Oper} {a : Act} {w w' : World} {n : Nat} {l : List (Nat × Value)} {d : Nat} {ty : TypeId} {pos : String} {aft : Array Edge}
theorem r_mfc {f : FuncId} {dst : Option Tmp} {g : Option (Nat × Bool)} {caps : List Operand} {vs : List Value} (H : Fr n l a) (hv : evs l caps = some vs) : (execOp a.eval ⟨dst, .makeFunc (.func f) #[] caps.toArray, ty, pos, aft, g⟩).run P w = .ok (.value (.func (.func f) #[] vs.toArray)) w := by
 have := H.evals hv
 simp [execOp, Instr.makeFunc, this]
theorem call_runC {xs : List Operand} {ats : Array TypeId} {f : FuncId} {cs vs : List Value} {dst : Option Tmp} {g : Option (Nat × Bool)} {fo : Operand} (H : Fr n l a) (hfo : ev l fo = some (.func (.func f) #[] cs.toArray)) (hv : evs l xs = some vs) (hf : ∀ args w, (callFunc f args).run P w = .ok (.enter f args) w) :
 (execOp a.eval ⟨dst, .call { callee := .value fo, args := xs.toArray, argTypes := ats }, ty, pos, aft, g⟩).run P w = .ok (.enter f (vs ++ cs).toArray) w := by
 have := H.evals hv
 simp only [execOp, resolve, Deferred.ofValue, invoke, H.eval hfo, Sem.run_bind, Sem.run_pure, Result.andThen_ok, List.map_toArray, this, Array.empty_append, List.append_toArray, List.nil_append, hf]
theorem LCC {xs : List Operand} {ats : Array TypeId} {f : FuncId} {cs vs : List Value} {fo : Operand} {R : Ending → World → Prop} (H : Fr n l a) (hfo : ev l fo = some (.func (.func f) #[] cs.toArray)) (hv : evs l xs = some vs) (hf : ∀ args w, (callFunc f args).run P w = .ok (.enter f args) w)
 (hc : Calls P f (vs ++ cs).toArray w R) (hd : Nat.blt d n = true) (h : ∀ e w', R e w' → ∃ v, e = .returned v ∧ ∀ a', Fr n ((d, v) :: l) a' → wpList P ops Q rest a' w') :
 wpList P ops Q (⟨some d, .call { callee := .value fo, args := xs.toArray, argTypes := ats }, ty, pos, aft, none⟩ :: rest) a w := by
 refine wpList_plain rfl fun K hK => ?_
 simp only [Oper.wp, call_runC H hfo hv hf, Oper.upon_enter]
 refine hc.mono fun e w' hR => ?_
 obtain ⟨v, rfl, h2⟩ := h e w' hR
 exact hK _ _ (h2 _ (H.puts hd v))
end
section
variable {S : Nat → Prop} {w w' : World} {O L : List NM} {k : Nat} {m m' : NM} {base : Nat} {A : Option Addr} {c : Nat}
theorem own_len {n : Nat} (h : w.ownsRow base 51 5 (.slice A n c) n (O.flatMap KN0.cells)) (hl : O.length = n) : SliceOf (geB base) 5 KN0.R w (.slice A n c) O := by
 subst hl; exact Row.own KN0 h fun _ _ => trivial
theorem clone_ok {A : Option Addr} {c b : Nat} (h : okN AllB w m) (hr : w'.ownsRow b 53 2 (.slice A m.l.length c) m.l.length (m.l.flatMap KRef.cells)) : okN (geB b) w' ⟨m.h, m.n, m.d, A, m.l, c, m.s⟩ :=
 ⟨h.1, h.2.1, h.2.2.1, Row.own KRef hr (Row.oks KRef h.2.2.2.1), h.2.2.2.2⟩
theorem set_ns (hm : O[k]? = some m) (e : ns m' = ns m) : (O.set k m').map ns = O.map ns := by
 rw [List.map_set, e]
 have hk := (List.getElem?_eq_some_iff.1 hm).1
 have hg : (O.map ns)[k]? = some (ns m) := by rw [List.getElem?_map, hm]; rfl
 obtain ⟨h1, h2⟩ := List.getElem?_eq_some_iff.1 hg
 rw [← h2]; exact List.set_getElem_self h1
theorem all_step (hm : O[k]? = some m) (h : ∀ j x, j < k → O[j]? = some x → okN S w x) (h' : okN S w m') : ∀ j x, j < k + 1 → (O.set k m')[j]? = some x → okN S w x := by
 intro j x hj hx
 by_cases e : k = j
 · subst e
   rw [List.getElem?_set_self (List.getElem?_eq_some_iff.1 hm).1] at hx
   rw [← Option.some.inj hx]; exact h'
 · rw [List.getElem?_set_ne e] at hx
   exact h j x (by omega) hx
theorem rest_step (h : ∀ j x, k ≤ j → O[j]? = some x → L[j]? = some x) : ∀ j x, k + 1 ≤ j → (O.set k m')[j]? = some x → L[j]? = some x := by
 intro j x hj hx
 rw [List.getElem?_set_ne (by omega)] at hx
 exact h j x (by omega) hx
theorem all_end (h : ∀ j x, j < k → O[j]? = some x → okN S w x) (hk : O.length ≤ k) : OkNs S w O := by
 intro x hx
 obtain ⟨j, hj⟩ := List.getElem?_of_mem hx
 exact h j x (by have := (List.getElem?_eq_some_iff.1 hj).1; omega) hj
end
theorem rSameChain_v_ {w : World} {l l2 : List NM} {A1 A2 : Option Addr} {c1 c2 : Nat} (f1 : NotesV w w (.slice A1 l.length c1) l) (f2 : NotesV w w (.slice A2 l2.length c2) l2) : Calls Tryz.prog 22 [.slice A1 l.length c1, .slice A2 l2.length c2].toArray w (Fix (.bool (decide (l.map ns = l2.map ns))) w) := by
 have hbd1 := Nat.le_trans (SliceOf.cap_ f1) (SliceOf.lens f1).2
 refine calls_start Tryz.func22 rfl rfl ?_
 intro az Z
 rw [Tryz.ntmps22] at Z
 refine wp_seq_k fun _ k1 => wp_region_lit ?_
 refine L (r_as Z rfl) Z rfl ?_; clear Z az; intro az Z
 refine k1 _ _ (wp_seq_k fun _ k2 => ?_)
 refine wp_seq_k fun _ k3 => wp_region_lit ?_
 refine L (r_mv Z rfl) Z rfl ?_; clear Z az; intro az Z
 refine L (r_lenL Tryz.underlying44 Z rfl) Z rfl ?_; clear Z az; intro az Z
 refine L (r_mv Z rfl) Z rfl ?_; clear Z az; intro az Z
 refine L (r_lenL Tryz.underlying44 Z rfl) Z rfl ?_; clear Z az; intro az Z
 refine L (r_neI Z rfl rfl) Z rfl ?_; clear Z az; intro az Z
 refine k3 _ _ ?_
 refine br Z rfl (fun hc4 => ?_) (fun hc4 => ?_)
 ·
  have p5 := of_decide_eq_false (nt_t hc4)
  refine wp_seq_k fun _ k6 => wp_region_lit ?_
  refine L (r_as Z rfl) Z rfl ?_; clear Z az; intro az Z
  refine k6 _ _ ?_
  refine wp_ret ?_
  show bodyPost _ _ _ .ret _ _
  refine ret_of (vs := [.bool (false)]) Z Tryz.results22 ⟨rfl, trivial⟩ ?_
  rw [sc_len hc4]
  exact ⟨rfl, (Only.refl NoF w)⟩
 ·
  have p7 := of_decide_eq_true (nt_f hc4)
  refine wp_skip ?_
  refine k2 _ _ (wp_seq_k fun _ k8 => ?_)
  refine wp_seq_k fun _ k9 => wp_region_lit ?_
  refine L (r_as Z rfl) Z rfl ?_; clear Z az; intro az Z
  refine k9 _ _ ?_
  refine wp_block ?_
  refine wp_loop_m (fun mz az W => ∃ k : Nat, mz = l.length - k ∧ Fr 27 [(0, .slice A1 (l.length) c1), (1, .slice A2 (l2.length) c2), (5, .int .i64 ((k : Int)))] az ∧ (k ≤ l.length) ∧ ((l.take k).map ns = (l2.take k).map ns) ∧ Only NoF w W) ?_ ?_
  ·
   exact ⟨_, 0, rfl, Z.cut ⟨rfl, rfl, rfl, trivial⟩, Nat.zero_le _, rfl, (Only.refl NoF w)⟩
  clear Z az
  rintro mz az w10 ⟨k, hm12, Z, hk, hsm, o11⟩
  have hll := sc_len2 hc4
  refine wp_seq_k fun _ k13 => ?_
  refine wp_seq_k fun _ k14 => wp_region_lit ?_
  refine L (r_mv Z rfl) Z rfl ?_; clear Z az; intro az Z
  refine L (r_mv Z rfl) Z rfl ?_; clear Z az; intro az Z
  refine L (r_lenL Tryz.underlying44 Z rfl) Z rfl ?_; clear Z az; intro az Z
  refine L (r_ltI Z rfl rfl) Z rfl ?_; clear Z az; intro az Z
  refine k14 _ _ ?_
  refine br Z rfl (fun hc15 => ?_) (fun hc15 => ?_)
  ·
   have p16 := of_decide_eq_true hc15
   refine wp_skip ?_
   refine k13 _ _ (wp_seq_k fun _ k17 => ?_)
   refine wp_block ?_
   refine wp_seq_k fun _ k18 => ?_
   refine reg_p NoF 1 [8] (.rd 0 (.rd 1 (.rd 2 (.rd 3 (.rd 4 (.rd 5 (.rd 6 (.rd 7 (.ex 8 (.rd 9 .nil)))))))))) (by kernel_rfl) (by kernel_rfl) (fun _ _ _ _ _ h => h) fun w19 o20 => ?_
   refine Pl.MSP (b := true) (by kernel_rfl) (fun W oW => r_mv Z rfl) Z rfl rfl ?_; clear Z az; intro az Z
   refine Pl.MSP (b := true) (by kernel_rfl) (fun W oW => r_mv Z rfl) Z rfl rfl ?_; clear Z az; intro az Z
   have hk21 : k < (l).length := by omega
   have O27 : Only NoF w w19 := (Only.trans' o11 o20)
   have h28 := (SliceOf.kp f1 O27 (fun _ _ h => h) (fun _ _ _ _ h => h))
   obtain ⟨m22, hm23, ok24, hA25⟩ := Row.el (KNote w) h28 hk21
   have E26 : ∀ W, Only NoF w19 W → CA W (eA A1 5 (k)) [.int .i64 (m22.h), .int .i64 (m22.n), .int .i64 (m22.d), .slice m22.A (m22.l.length) m22.c, strV (m22.s)] := Row.ce (KNote w) h28 hm23 rfl
   refine Pl.MSP (b := true) (by kernel_rfl) (fun W oW => r_ia (k := k) (size := 5) Tryz.underlying44 Tryz.sizeOf51 Z rfl rfl rfl hk21 hA25) Z rfl rfl ?_; clear Z az; intro az Z
   refine Pl.MSP (b := true) (by kernel_rfl) (fun W oW => r_ldA Tryz.isAgg51 Tryz.sizeOf51 Z rfl (E26 _ (Only.trans' (Only.refl NoF w19) oW)) rfl) Z rfl rfl ?_; clear Z az; intro az Z
   refine Pl.MSP (b := true) (by kernel_rfl) (fun W oW => r_mv Z rfl) Z rfl rfl ?_; clear Z az; intro az Z
   refine Pl.MSP (b := true) (by kernel_rfl) (fun W oW => r_mv Z rfl) Z rfl rfl ?_; clear Z az; intro az Z
   have hk29 : k < (l2).length := by omega
   have h35 := (SliceOf.kp f2 O27 (fun _ _ h => h) (fun _ _ _ _ h => h))
   obtain ⟨m30, hm31, ok32, hA33⟩ := Row.el (KNote w) h35 hk29
   have E34 : ∀ W, Only NoF w19 W → CA W (eA A2 5 (k)) [.int .i64 (m30.h), .int .i64 (m30.n), .int .i64 (m30.d), .slice m30.A (m30.l.length) m30.c, strV (m30.s)] := Row.ce (KNote w) h35 hm31 rfl
   refine Pl.MSP (b := true) (by kernel_rfl) (fun W oW => r_ia (k := k) (size := 5) Tryz.underlying44 Tryz.sizeOf51 Z rfl rfl rfl hk29 hA33) Z rfl rfl ?_; clear Z az; intro az Z
   refine Pl.MSP (b := true) (by kernel_rfl) (fun W oW => r_ldA Tryz.isAgg51 Tryz.sizeOf51 Z rfl (E34 _ (Only.trans' (Only.refl NoF w19) oW)) rfl) Z rfl rfl ?_; clear Z az; intro az Z
   have h36 := (SliceOf.kp ok24.2.2.2.1 O27 (fun _ _ h => h) (fun _ _ _ _ h => h))
   have h37 := (SliceOf.kp ok32.2.2.2.1 O27 (fun _ _ h => h) (fun _ _ _ _ h => h))
   refine Pl.MSV (v := .bool (same m22 m30)) Z rfl rfl rfl Tryz.call45 (rSame_v (m := m22) (m2 := m30) h36 h37) rfl (fun w' o' => ⟨fun _ => o', (Only.trans (Only.refl NoF w19) o' (fun _ h => h.elim))⟩) fun w38 o39 => ?_; clear Z az; intro az Z
   refine Pl.MSP (b := true) (by kernel_rfl) (fun W oW => r_not Z rfl) Z rfl rfl ?_; clear Z az; intro az Z
   refine wpPl_nil ?_
   refine k18 _ _ ?_
   refine br Z rfl (fun hc40 => ?_) (fun hc40 => ?_)
   ·
    have q41 : same m22 m30 = false := (nt_t hc40)
    refine wp_seq_k fun _ k42 => wp_region_lit ?_
    refine L (r_as Z rfl) Z rfl ?_; clear Z az; intro az Z
    refine k42 _ _ ?_
    refine wp_ret ?_
    show bodyPost _ _ _ .ret _ _
    refine ret_of (vs := [.bool (false)]) Z Tryz.results22 ⟨rfl, trivial⟩ ?_
    have O43 : Only NoF w w38 := (Only.trans' O27 o39)
    rw [sc_no hm23 hm31 hc40]
    exact ⟨rfl, O43⟩
   ·
    have q44 : same m22 m30 = true := (nt_f hc40)
    refine wp_skip ?_
    refine k17 _ _ ?_
    refine wp_region_lit ?_
    refine L (r_mv Z rfl) Z rfl ?_; clear Z az; intro az Z
    have i45 : I64 (((k : Int) + 1)) := by unfold I64; omega
    refine L (r_addI (r := ((k : Int) + 1)) Z rfl rfl rfl i45) Z rfl ?_; clear Z az; intro az Z
    refine L (r_as Z rfl) Z rfl ?_; clear Z az; intro az Z
    have O46 : Only NoF w w38 := (Only.trans' O27 o39)
    exact ⟨_, (by omega), k + 1, rfl, Z.cut ⟨rfl, rfl, rfl, trivial⟩, (by omega), (sc_step hm23 hm31 hsm hc40), O46⟩
  ·
   have p47 := of_decide_eq_false hc15
   refine wp_exit ?_
   refine th_exit ?_
   refine th_exit ?_
   refine ib_hit ?_
   refine k8 _ _ (wp_seq_k fun _ k48 => wp_region_lit ?_)
   refine L (r_as Z rfl) Z rfl ?_; clear Z az; intro az Z
   refine k48 _ _ ?_
   refine wp_ret ?_
   show bodyPost _ _ _ .ret _ _
   refine ret_of (vs := [.bool (true)]) Z Tryz.results22 ⟨rfl, trivial⟩ ?_
   rw [sc_yes hll (by omega) hsm]
   exact ⟨rfl, o11⟩
theorem rSameChain_v {w : World} {v v2 : Value} {l l2 : List NM} (f1 : NotesV w w v l) (f2 : NotesV w w v2 l2) : Calls Tryz.prog 22 #[v, v2] w (Fix (.bool (decide (l.map ns = l2.map ns))) w) := by
 obtain ⟨A1, c1, rfl, _⟩ := SliceOf.shape f1
 obtain ⟨A2, c2, rfl, _⟩ := SliceOf.shape f2
 exact rSameChain_v_ f1 f2
theorem sRead_v_ {w : World} (hG : Gr w) {l : List Str} {A1 : Option Addr} {c1 : Nat} (f1 : StrsV w (.slice A1 l.length c1) l) (hs : ∀ t ∈ l, t.length ≤ 20000) (hll : l.length ≤ 100000000) : Calls Tryz.prog 26 [.slice A1 l.length c1].toArray w (NotesTo l w) := by
 have hna : ∀ (l : List NM), ∀ z ∈ l, KN0.ok z := fun _ _ _ => trivial
 refine calls_start Tryz.func26 rfl rfl ?_
 intro az Z
 rw [Tryz.ntmps26] at Z
 refine wp_seq_k fun _ k1 => wp_region_lit ?_
 refine L (r_as Z rfl) Z rfl ?_; clear Z az; intro az Z
 refine L (r_as Z rfl) Z rfl ?_; clear Z az; intro az Z
 refine k1 _ _ (wp_seq_k fun _ k2 => wp_region_lit ?_)
 refine L (r_as Z rfl) Z rfl ?_; clear Z az; intro az Z
 refine k2 _ _ (wp_seq_k fun _ k3 => ?_)
 refine wp_seq_k fun _ k4 => wp_region_lit ?_
 refine L (r_mv Z rfl) Z rfl ?_; clear Z az; intro az Z
 refine L (r_lenL Tryz.underlying68 Z rfl) Z rfl ?_; clear Z az; intro az Z
 refine L (r_mv Z rfl) Z rfl ?_; clear Z az; intro az Z
 refine k4 _ _ ?_
 refine wp_block ?_
 refine wp_loop_m (fun mz az W => ∃ k : Nat, ∃ O : List NM, ∃ Ao : Option Addr, ∃ co : Nat, mz = l.length - k ∧ Fr 28 [(9, .slice A1 (l.length) c1), (10, .int .i64 (((l.length : Nat) : Int))), (11, .int .i64 ((k : Int))), (4, .slice Ao (O.length) co)] az ∧ (k ≤ l.length) ∧ (O.map ns = (l.take k).map decN) ∧ (∀ t ∈ l.take k, decOk t = true) ∧ Only NoF w W ∧ W.ownsRow w.heap.size 51 5 (.slice Ao (O.length) co) (O).length (List.flatMap KN0.cells O) ∧ OkNs (fun k => w.heap.size ≤ k ∧ ¬ ownF (.slice Ao O.length co) k) W O) ?_ ?_
 ·
  exact ⟨_, 0, [], none, 0, rfl, Z.cut ⟨rfl, rfl, rfl, rfl, trivial⟩, Nat.zero_le _, rfl, (fun t h => by cases h), (Only.refl NoF w), (World.ownsRow_nil _ _ _ _), OkNs.nil⟩
 clear Z az
 rintro mz az w5 ⟨k, O, Ao, co, hm7, Z, hk, hO, hd, o6, rO, hN⟩
 have hOl : O.length = k := by have := congrArg List.length hO; rw [List.length_map, List.length_map, List.length_take] at this; omega
 refine wp_seq_k fun _ k8 => wp_region_lit ?_
 refine L (r_ltI Z rfl rfl) Z rfl ?_; clear Z az; intro az Z
 refine k8 _ _ (wp_seq_k fun _ k9 => ?_)
 refine br Z rfl (fun hc10 => ?_) (fun hc10 => ?_)
 ·
  have p11 := of_decide_eq_true hc10
  refine wp_skip ?_
  refine k9 _ _ (wp_seq_k fun _ k12 => ?_)
  refine wp_block ?_
  refine wp_seq_k fun _ k13 => wp_region_lit ?_
  have hk14 : k < (l).length := by omega
  have h20 := (SliceOf.kp f1 o6 (fun _ _ h => h) (fun _ _ _ _ h => h))
  obtain ⟨m15, hm16, ok17, hA18⟩ := Row.el KStr h20 hk14
  have E19 : ∀ W, Only NoF w5 W → CA W (eA A1 1 (k)) [strV (m15)] := Row.ce KStr h20 hm16 rfl
  refine L (r_ia (k := k) (size := 1) Tryz.underlying68 Tryz.sizeOf9 Z rfl rfl rfl hk14 hA18) Z rfl ?_; clear Z az; intro az Z
  refine L (r_ld Tryz.isAgg9 Z rfl (CA.first (E19 _ (Only.refl NoF w5)))) Z rfl ?_; clear Z az; intro az Z
  refine L (r_as Z rfl) Z rfl ?_; clear Z az; intro az Z
  refine k13 _ _ (wp_seq_k fun _ k21 => wp_region_lit ?_)
  refine L (r_mv Z rfl) Z rfl ?_; clear Z az; intro az Z
  have G26 := Gr.k hG o6
  refine LC Z rfl rfl Tryz.call53 (Decode_v G26 (Nat.le_trans (hs _ (List.mem_of_getElem? hm16)) (by decide))) rfl ?_
  rintro e w23 ⟨v22, rfl, o24, hv25⟩; refine ⟨_, rfl, ?_⟩
  clear Z az; intro az Z
  rcases hv25 with ⟨hd27, rfl⟩ | ⟨hd27, m28, rfl, e29, e30, e31, e32, e33, ok34, sg35⟩
  ·
   rw [hd27] at Z
   refine L (r_mv Z rfl) Z rfl ?_; clear Z az; intro az Z
   refine L (r_ex Z rfl rfl) Z rfl ?_; clear Z az; intro az Z
   refine L (r_ex Z rfl rfl) Z rfl ?_; clear Z az; intro az Z
   refine LAl (v := .agg #[.int .i64 (0), .int .i64 (0), .int .i64 (0), .slice none (0) 0, strV ([])]) Tryz.zeroValue51 Z rfl rfl ?_
   clear Z az; intro g36 w37 hg40 hl41 o38 B39 az Z
   refine LSt (cs' := [.int .i64 (0), .int .i64 (0), .int .i64 (0), .slice none (0) 0, strV ([])]) Tryz.sizeOf51 Z rfl rfl rfl rfl rfl ⟨rfl, rfl, rfl, rfl, rfl, trivial⟩ B39 rfl rfl fun w42 s43 B44 => ?_
   refine L (r_as Z rfl) Z rfl ?_; clear Z az; intro az Z
   refine k21 _ _ (wp_seq_k fun _ k45 => ?_)
   refine wp_seq_k fun _ k46 => wp_region_lit ?_
   refine L (r_mv Z rfl) Z rfl ?_; clear Z az; intro az Z
   refine L (r_not Z rfl) Z rfl ?_; clear Z az; intro az Z
   refine k46 _ _ ?_
   refine br_true Z rfl ?_
   refine wp_seq_k fun _ k47 => wp_region_lit ?_
   refine L (r_as Z rfl) Z rfl ?_; clear Z az; intro az Z
   refine L (r_as Z rfl) Z rfl ?_; clear Z az; intro az Z
   refine k47 _ _ ?_
   refine wp_ret ?_
   show bodyPost _ _ _ .ret _ _
   refine ret_of (vs := [.slice none (0) 0, .bool (false)]) Z Tryz.results26 ⟨rfl, rfl, trivial⟩ ?_
   have O48 : Only NoF w w23 := (Only.trans' o6 o24)
   have O49 : Only NoF w w42 := (o_sg (Only.trans' (Only.trans' o6 o24) o38) s43 (size_only O48) (oneF_ge hg40))
   have ha50 := all_f hm16 hd27
   exact ⟨none, 0, [], by rw [ha50]; rfl, World.ownsRow_nil _ _ _ _, OkNs.nil, (fun h => by rw [ha50] at h; cases h), O49⟩
  ·
   rw [hd27] at Z
   refine L (r_mv Z rfl) Z rfl ?_; clear Z az; intro az Z
   refine L (r_ex Z rfl rfl) Z rfl ?_; clear Z az; intro az Z
   refine L (r_ex Z rfl rfl) Z rfl ?_; clear Z az; intro az Z
   refine LAl (v := .agg #[.int .i64 (0), .int .i64 (0), .int .i64 (0), .slice none (0) 0, strV ([])]) Tryz.zeroValue51 Z rfl rfl ?_
   clear Z az; intro g51 w52 hg55 hl56 o53 B54 az Z
   refine LSt (cs' := [.int .i64 (m28.h), .int .i64 (m28.n), .int .i64 (m28.d), .slice m28.A (m28.l.length) m28.c, strV (m28.s)]) Tryz.sizeOf51 Z rfl rfl rfl rfl rfl ⟨rfl, rfl, rfl, rfl, rfl, trivial⟩ B54 rfl rfl fun w57 s58 B59 => ?_
   refine L (r_as Z rfl) Z rfl ?_; clear Z az; intro az Z
   refine k21 _ _ (wp_seq_k fun _ k60 => ?_)
   refine wp_seq_k fun _ k61 => wp_region_lit ?_
   refine L (r_mv Z rfl) Z rfl ?_; clear Z az; intro az Z
   refine L (r_not Z rfl) Z rfl ?_; clear Z az; intro az Z
   refine k61 _ _ ?_
   refine br_false Z rfl ?_
   refine wp_skip ?_
   refine k60 _ _ ?_
   refine wp_region_lit ?_
   refine L (r_mv Z rfl) Z rfl ?_; clear Z az; intro az Z
   refine L (r_ldA Tryz.isAgg51 Tryz.sizeOf51 Z rfl (Blk.ca B59) rfl) Z rfl ?_; clear Z az; intro az Z
   obtain ⟨A62, w63, hw, hA, r64, o65⟩ := Row.made (w := w57) KN0 (e := 51) ([m28] : List NM) (by simp only [List.length_cons, List.length_nil]; unfold maxLen; omega)
   refine L (r_bs (z := .agg #[.int .i64 (0), .int .i64 (0), .int .i64 (0), .slice none (0) 0, strV ([])]) (size := 5) (vs := [(0, .agg #[.int .i64 (m28.h), .int .i64 (m28.n), .int .i64 (m28.d), .slice m28.A (m28.l.length) m28.c, strV (m28.s)])]) (cs := List.flatMap KN0.cells [m28]) Tryz.underlying44 Tryz.sizeOf51 Tryz.zeroValue51 rfl (Fr.evalps Z rfl) (by kernel_rfl)) Z rfl ?_
   rw [← hw, ← hA]; clear Z az; intro az Z
   clear hw hA
   have ok66 : ∀ zq ∈ ([m28] : List NM), KN0.ok zq := by intro zq hx; simp only [List.mem_cons, List.not_mem_nil, or_false] at hx; rcases hx with rfl <;> first | exact trivial
   have r67 := (ow_k (ow_only (ow_k (ow_k rO o24) o53) s58 (fun k hk => lt_F (oneF_ge hg55) (size_only o24) k (ownF_lt rO k hk))) o65)
   have h68 := Row.own KN0 r64 ok66
   have h69 := SliceOf.pl h68
   have hb77 : (List.length (O) + List.length ([m28])) * 64 ≤ 140737488355328 := by (simp only [List.length_append, List.length_cons, List.length_nil]; omega)
   have O78 : Only NoF w w23 := (Only.trans' o6 o24)
   have O79 : Only NoF w w63 := (Only.trans' (o_sg (Only.trans' (Only.trans' o6 o24) o53) s58 (size_only O78) (oneF_ge hg55)) o65)
   obtain ⟨A70, c71, w72, hr73, r74, o75, al76⟩ := Row.app (P := Tryz.prog) (l := O) (l2 := [m28]) KN0 elemNote r67 h69 hb77 (by unfold maxLen; omega) (size_only O79)
   refine L (r_app hr73 Z rfl rfl) Z rfl ?_; clear Z az; intro az Z
   have ok80 : ∀ zq ∈ (O ++ [m28]), KN0.ok zq := (fun x hx => (List.mem_append.1 hx).elim ((hna _) x) ((Row.oks KN0 h69) x))
   have h81 := Row.own KN0 r74 ok80
   refine L (r_as Z rfl) Z rfl ?_; clear Z az; intro az Z
   refine k12 _ _ ?_
   refine wp_region_lit ?_
   have i82 : I64 (((k : Int) + 1)) := by unfold I64; omega
   refine L (r_addI (r := ((k : Int) + 1)) Z rfl rfl rfl i82) Z rfl ?_; clear Z az; intro az Z
   refine L (r_mv Z rfl) Z rfl ?_; clear Z az; intro az Z
   have O85 : Only NoF w23 w63 := (Only.trans' (o_sg o53 s58 (Nat.le_refl _) (oneF_ge hg55)) o65)
   have hn83 : okN (fun k => w.heap.size ≤ k ∧ ¬ ownF (.slice Ao O.length co) k) w63 m28 := okN.only (okN.sup (okN.behind (okN.of ok34 sg35) rO) fun k hk => ⟨Nat.le_trans (size_only o6) hk.1, hk.2⟩) O85 (fun _ _ h => h)
   have O86 : Only NoF w5 w63 := (Only.trans' (o_sg (Only.trans' o24 o53) s58 (size_only o24) (oneF_ge hg55)) o65)
   have hn84 := OkNs.sup (OkNs.grow (OkNs.app (OkNs.k hN O86) hn83) o75 (fun k hk => hk.2) (Nat.le_refl _) al76) (S' := fun k => w.heap.size ≤ k ∧ ¬ ownF (.slice A70 (((O ++ [m28])).length) c71) k) (fun k hk => ⟨hk.1.1, hk.2⟩)
   have O87 : Only NoF w w72 := (o_sg O79 o75 (Nat.le_refl _) (ownF_ge rO))
   exact ⟨_, (by omega), k + 1, _, A70, c71, rfl, Z.cut ⟨rfl, rfl, rfl, rfl, trivial⟩, (by omega), (dn_step hm16 hO e29 e30 e31 e32 e33), (dec_step hm16 hd hd27), O87, r74, hn84⟩
 ·
  have p88 := of_decide_eq_false hc10
  refine wp_exit ?_
  refine th_exit ?_
  refine th_exit ?_
  refine ib_hit ?_
  refine k3 _ _ (wp_seq_k fun _ k89 => wp_region_lit ?_)
  refine L (r_mv Z rfl) Z rfl ?_; clear Z az; intro az Z
  refine L (r_as Z rfl) Z rfl ?_; clear Z az; intro az Z
  refine L (r_as Z rfl) Z rfl ?_; clear Z az; intro az Z
  refine k89 _ _ ?_
  refine wp_ret ?_
  show bodyPost _ _ _ .ret _ _
  refine ret_of (vs := [.slice Ao (O.length) co, .bool (true)]) Z Tryz.results26 ⟨rfl, rfl, trivial⟩ ?_
  rw [List.take_of_length_le (by omega)] at hO hd
  have ha90 := all_t hd
  exact ⟨_, _, O, by rw [ha90]; rfl, rO, OkNs.k hN (Only.refl NoF w5), (fun _ => hO), o6⟩
theorem sRead_v {w : World} (hG : Gr w) {v : Value} {l : List Str} (f1 : StrsV w v l) (hs : ∀ t ∈ l, t.length ≤ 20000) (hll : l.length ≤ 100000000) : Calls Tryz.prog 26 #[v] w (NotesTo l w) := by
 obtain ⟨A1, c1, rfl, _⟩ := SliceOf.shape f1
 exact sRead_v_ hG f1 hs hll
theorem rNotes_v_ {w : World} {l : List Str} {A1 : Option Addr} {c1 : Nat} (f1 : StrsV w (.slice A1 l.length c1) l) (hs : ∀ t ∈ l, t.length ≤ 20000) (hll : l.length ≤ 100000000) : Calls Tryz.prog 32 [.slice A1 l.length c1].toArray w (NotesTo l w) := by
 have hna : ∀ (l : List NM), ∀ z ∈ l, KN0.ok z := fun _ _ _ => trivial
 refine calls_start Tryz.func32 rfl rfl ?_
 intro az Z
 rw [Tryz.ntmps32] at Z
 refine wp_seq_k fun _ k1 => wp_region_lit ?_
 refine L (r_as Z rfl) Z rfl ?_; clear Z az; intro az Z
 refine L (r_as Z rfl) Z rfl ?_; clear Z az; intro az Z
 refine k1 _ _ (wp_seq_k fun _ k2 => wp_region_lit ?_)
 refine L (r_as Z rfl) Z rfl ?_; clear Z az; intro az Z
 refine k2 _ _ (wp_seq_k fun _ k3 => ?_)
 refine wp_seq_k fun _ k4 => wp_region_lit ?_
 refine L (r_as Z rfl) Z rfl ?_; clear Z az; intro az Z
 refine k4 _ _ ?_
 refine wp_block ?_
 refine wp_loop_m (fun mz az W => ∃ k : Nat, ∃ O : List NM, ∃ Ao : Option Addr, ∃ co : Nat, mz = l.length - k ∧ Fr 29 [(0, .slice A1 (l.length) c1), (5, .int .i64 ((k : Int))), (4, .slice Ao (O.length) co)] az ∧ (k ≤ l.length) ∧ (O.map ns = (l.take k).map decN) ∧ (∀ t ∈ l.take k, decOk t = true) ∧ Only NoF w W ∧ W.ownsRow w.heap.size 51 5 (.slice Ao (O.length) co) (O).length (List.flatMap KN0.cells O) ∧ OkNs (fun k => w.heap.size ≤ k ∧ ¬ ownF (.slice Ao O.length co) k) W O) ?_ ?_
 ·
  exact ⟨_, 0, [], none, 0, rfl, Z.cut ⟨rfl, rfl, rfl, trivial⟩, Nat.zero_le _, rfl, (fun t h => by cases h), (Only.refl NoF w), (World.ownsRow_nil _ _ _ _), OkNs.nil⟩
 clear Z az
 rintro mz az w5 ⟨k, O, Ao, co, hm7, Z, hk, hO, hd, o6, rO, hN⟩
 have hOl : O.length = k := by have := congrArg List.length hO; rw [List.length_map, List.length_map, List.length_take] at this; omega
 refine wp_seq_k fun _ k8 => ?_
 refine wp_seq_k fun _ k9 => wp_region_lit ?_
 refine L (r_mv Z rfl) Z rfl ?_; clear Z az; intro az Z
 refine L (r_mv Z rfl) Z rfl ?_; clear Z az; intro az Z
 refine L (r_lenL Tryz.underlying68 Z rfl) Z rfl ?_; clear Z az; intro az Z
 refine L (r_ltI Z rfl rfl) Z rfl ?_; clear Z az; intro az Z
 refine k9 _ _ ?_
 refine br Z rfl (fun hc10 => ?_) (fun hc10 => ?_)
 ·
  have p11 := of_decide_eq_true hc10
  refine wp_skip ?_
  refine k8 _ _ (wp_seq_k fun _ k12 => ?_)
  refine wp_block ?_
  refine wp_seq_k fun _ k13 => wp_region_lit ?_
  refine L (r_mv Z rfl) Z rfl ?_; clear Z az; intro az Z
  refine L (r_mv Z rfl) Z rfl ?_; clear Z az; intro az Z
  have hk14 : k < (l).length := by omega
  have h20 := (SliceOf.kp f1 o6 (fun _ _ h => h) (fun _ _ _ _ h => h))
  obtain ⟨m15, hm16, ok17, hA18⟩ := Row.el KStr h20 hk14
  have E19 : ∀ W, Only NoF w5 W → CA W (eA A1 1 (k)) [strV (m15)] := Row.ce KStr h20 hm16 rfl
  refine L (r_ia (k := k) (size := 1) Tryz.underlying68 Tryz.sizeOf9 Z rfl rfl rfl hk14 hA18) Z rfl ?_; clear Z az; intro az Z
  refine L (r_ld Tryz.isAgg9 Z rfl (CA.first (E19 _ (Only.refl NoF w5)))) Z rfl ?_; clear Z az; intro az Z
  refine LC Z rfl rfl Tryz.call62 (rDecode_v (Nat.le_trans (hs _ (List.mem_of_getElem? hm16)) (by decide))) rfl ?_
  rintro e w22 ⟨v21, rfl, o23, hv24⟩; refine ⟨_, rfl, ?_⟩
  clear Z az; intro az Z
  rcases hv24 with ⟨hd25, rfl⟩ | ⟨hd25, m26, rfl, e27, e28, e29, e30, e31, ok32, sg33⟩
  ·
   rw [hd25] at Z
   refine L (r_mv Z rfl) Z rfl ?_; clear Z az; intro az Z
   refine L (r_ex Z rfl rfl) Z rfl ?_; clear Z az; intro az Z
   refine L (r_ex Z rfl rfl) Z rfl ?_; clear Z az; intro az Z
   refine LAl (v := .agg #[.int .i64 (0), .int .i64 (0), .int .i64 (0), .slice none (0) 0, strV ([])]) Tryz.zeroValue51 Z rfl rfl ?_
   clear Z az; intro g34 w35 hg38 hl39 o36 B37 az Z
   refine LSt (cs' := [.int .i64 (0), .int .i64 (0), .int .i64 (0), .slice none (0) 0, strV ([])]) Tryz.sizeOf51 Z rfl rfl rfl rfl rfl ⟨rfl, rfl, rfl, rfl, rfl, trivial⟩ B37 rfl rfl fun w40 s41 B42 => ?_
   refine L (r_as Z rfl) Z rfl ?_; clear Z az; intro az Z
   refine k13 _ _ (wp_seq_k fun _ k43 => ?_)
   refine wp_seq_k fun _ k44 => wp_region_lit ?_
   refine L (r_mv Z rfl) Z rfl ?_; clear Z az; intro az Z
   refine L (r_not Z rfl) Z rfl ?_; clear Z az; intro az Z
   refine k44 _ _ ?_
   refine br_true Z rfl ?_
   refine wp_seq_k fun _ k45 => wp_region_lit ?_
   refine L (r_as Z rfl) Z rfl ?_; clear Z az; intro az Z
   refine L (r_as Z rfl) Z rfl ?_; clear Z az; intro az Z
   refine k45 _ _ ?_
   refine wp_ret ?_
   show bodyPost _ _ _ .ret _ _
   refine ret_of (vs := [.slice none (0) 0, .bool (false)]) Z Tryz.results32 ⟨rfl, rfl, trivial⟩ ?_
   have O46 : Only NoF w w22 := (Only.trans' o6 o23)
   have O47 : Only NoF w w40 := (o_sg (Only.trans' (Only.trans' o6 o23) o36) s41 (size_only O46) (oneF_ge hg38))
   have ha48 := all_f hm16 hd25
   exact ⟨none, 0, [], by rw [ha48]; rfl, World.ownsRow_nil _ _ _ _, OkNs.nil, (fun h => by rw [ha48] at h; cases h), O47⟩
  ·
   rw [hd25] at Z
   refine L (r_mv Z rfl) Z rfl ?_; clear Z az; intro az Z
   refine L (r_ex Z rfl rfl) Z rfl ?_; clear Z az; intro az Z
   refine L (r_ex Z rfl rfl) Z rfl ?_; clear Z az; intro az Z
   refine LAl (v := .agg #[.int .i64 (0), .int .i64 (0), .int .i64 (0), .slice none (0) 0, strV ([])]) Tryz.zeroValue51 Z rfl rfl ?_
   clear Z az; intro g49 w50 hg53 hl54 o51 B52 az Z
   refine LSt (cs' := [.int .i64 (m26.h), .int .i64 (m26.n), .int .i64 (m26.d), .slice m26.A (m26.l.length) m26.c, strV (m26.s)]) Tryz.sizeOf51 Z rfl rfl rfl rfl rfl ⟨rfl, rfl, rfl, rfl, rfl, trivial⟩ B52 rfl rfl fun w55 s56 B57 => ?_
   refine L (r_as Z rfl) Z rfl ?_; clear Z az; intro az Z
   refine k13 _ _ (wp_seq_k fun _ k58 => ?_)
   refine wp_seq_k fun _ k59 => wp_region_lit ?_
   refine L (r_mv Z rfl) Z rfl ?_; clear Z az; intro az Z
   refine L (r_not Z rfl) Z rfl ?_; clear Z az; intro az Z
   refine k59 _ _ ?_
   refine br_false Z rfl ?_
   refine wp_skip ?_
   refine k58 _ _ ?_
   refine wp_region_lit ?_
   refine L (r_mv Z rfl) Z rfl ?_; clear Z az; intro az Z
   refine L (r_ldA Tryz.isAgg51 Tryz.sizeOf51 Z rfl (Blk.ca B57) rfl) Z rfl ?_; clear Z az; intro az Z
   obtain ⟨A60, w61, hw, hA, r62, o63⟩ := Row.made (w := w55) KN0 (e := 51) ([m26] : List NM) (by simp only [List.length_cons, List.length_nil]; unfold maxLen; omega)
   refine L (r_bs (z := .agg #[.int .i64 (0), .int .i64 (0), .int .i64 (0), .slice none (0) 0, strV ([])]) (size := 5) (vs := [(0, .agg #[.int .i64 (m26.h), .int .i64 (m26.n), .int .i64 (m26.d), .slice m26.A (m26.l.length) m26.c, strV (m26.s)])]) (cs := List.flatMap KN0.cells [m26]) Tryz.underlying44 Tryz.sizeOf51 Tryz.zeroValue51 rfl (Fr.evalps Z rfl) (by kernel_rfl)) Z rfl ?_
   rw [← hw, ← hA]; clear Z az; intro az Z
   clear hw hA
   have ok64 : ∀ zq ∈ ([m26] : List NM), KN0.ok zq := by intro zq hx; simp only [List.mem_cons, List.not_mem_nil, or_false] at hx; rcases hx with rfl <;> first | exact trivial
   have r65 := (ow_k (ow_only (ow_k (ow_k rO o23) o51) s56 (fun k hk => lt_F (oneF_ge hg53) (size_only o23) k (ownF_lt rO k hk))) o63)
   have h66 := Row.own KN0 r62 ok64
   have h67 := SliceOf.pl h66
   have hb75 : (List.length (O) + List.length ([m26])) * 64 ≤ 140737488355328 := by (simp only [List.length_append, List.length_cons, List.length_nil]; omega)
   have O76 : Only NoF w w22 := (Only.trans' o6 o23)
   have O77 : Only NoF w w61 := (Only.trans' (o_sg (Only.trans' (Only.trans' o6 o23) o51) s56 (size_only O76) (oneF_ge hg53)) o63)
   obtain ⟨A68, c69, w70, hr71, r72, o73, al74⟩ := Row.app (P := Tryz.prog) (l := O) (l2 := [m26]) KN0 elemNote r65 h67 hb75 (by unfold maxLen; omega) (size_only O77)
   refine L (r_app hr71 Z rfl rfl) Z rfl ?_; clear Z az; intro az Z
   have ok78 : ∀ zq ∈ (O ++ [m26]), KN0.ok zq := (fun x hx => (List.mem_append.1 hx).elim ((hna _) x) ((Row.oks KN0 h67) x))
   have h79 := Row.own KN0 r72 ok78
   refine L (r_as Z rfl) Z rfl ?_; clear Z az; intro az Z
   refine k12 _ _ ?_
   refine wp_region_lit ?_
   refine L (r_mv Z rfl) Z rfl ?_; clear Z az; intro az Z
   have i80 : I64 (((k : Int) + 1)) := by unfold I64; omega
   refine L (r_addI (r := ((k : Int) + 1)) Z rfl rfl rfl i80) Z rfl ?_; clear Z az; intro az Z
   refine L (r_as Z rfl) Z rfl ?_; clear Z az; intro az Z
   have O83 : Only NoF w22 w61 := (Only.trans' (o_sg o51 s56 (Nat.le_refl _) (oneF_ge hg53)) o63)
   have hn81 : okN (fun k => w.heap.size ≤ k ∧ ¬ ownF (.slice Ao O.length co) k) w61 m26 := okN.only (okN.sup (okN.behind (okN.of ok32 sg33) rO) fun k hk => ⟨Nat.le_trans (size_only o6) hk.1, hk.2⟩) O83 (fun _ _ h => h)
   have O84 : Only NoF w5 w61 := (Only.trans' (o_sg (Only.trans' o23 o51) s56 (size_only o23) (oneF_ge hg53)) o63)
   have hn82 := OkNs.sup (OkNs.grow (OkNs.app (OkNs.k hN O84) hn81) o73 (fun k hk => hk.2) (Nat.le_refl _) al74) (S' := fun k => w.heap.size ≤ k ∧ ¬ ownF (.slice A68 (((O ++ [m26])).length) c69) k) (fun k hk => ⟨hk.1.1, hk.2⟩)
   have O85 : Only NoF w w70 := (o_sg O77 o73 (Nat.le_refl _) (ownF_ge rO))
   exact ⟨_, (by omega), k + 1, _, A68, c69, rfl, Z.cut ⟨rfl, rfl, rfl, trivial⟩, (by omega), (dn_step hm16 hO e27 e28 e29 e30 e31), (dec_step hm16 hd hd25), O85, r72, hn82⟩
 ·
  have p86 := of_decide_eq_false hc10
  refine wp_exit ?_
  refine th_exit ?_
  refine th_exit ?_
  refine ib_hit ?_
  refine k3 _ _ (wp_seq_k fun _ k87 => wp_region_lit ?_)
  refine L (r_mv Z rfl) Z rfl ?_; clear Z az; intro az Z
  refine L (r_as Z rfl) Z rfl ?_; clear Z az; intro az Z
  refine L (r_as Z rfl) Z rfl ?_; clear Z az; intro az Z
  refine k87 _ _ ?_
  refine wp_ret ?_
  show bodyPost _ _ _ .ret _ _
  refine ret_of (vs := [.slice Ao (O.length) co, .bool (true)]) Z Tryz.results32 ⟨rfl, rfl, trivial⟩ ?_
  rw [List.take_of_length_le (by omega)] at hO hd
  have ha88 := all_t hd
  exact ⟨_, _, O, by rw [ha88]; rfl, rO, OkNs.k hN (Only.refl NoF w5), (fun _ => hO), o6⟩
theorem rNotes_v {w : World} {v : Value} {l : List Str} (f1 : StrsV w v l) (hs : ∀ t ∈ l, t.length ≤ 20000) (hll : l.length ≤ 100000000) : Calls Tryz.prog 32 #[v] w (NotesTo l w) := by
 obtain ⟨A1, c1, rfl, _⟩ := SliceOf.shape f1
 exact rNotes_v_ f1 hs hll
theorem other_v_ {w : World} {p : Nat} {h : Int} (hB : Blk w p 3 [.int .i64 h].toArray) {m : NM} (h1 : RefsV w (.slice m.A m.l.length m.c) m.l) : Calls Tryz.prog 28 [.agg #[.int .i64 m.h, .int .i64 m.n, .int .i64 m.d, .slice m.A m.l.length m.c, strV m.s], .pointer (some ⟨p, 0, none⟩)].toArray w (Fix (.bool (!decide (m.h = h))) w) := by
 refine calls_start Tryz.func28 rfl rfl ?_
 intro az Z
 rw [Tryz.ntmps28] at Z
 refine wp_seq_k fun _ k1 => wp_region_lit ?_
 refine LBox Z rfl rfl rfl ?_
 clear Z az; intro g2 w3 hg6 hl7 o4 B5 az Z
 refine L (r_as Z rfl) Z rfl ?_; clear Z az; intro az Z
 refine k1 _ _ (wp_seq_k fun _ k8 => wp_region_lit ?_)
 refine L (r_fa (m' := 0) Tryz.underlying51 rfl Tryz.sizeOf3 rfl Z rfl rfl) Z rfl ?_; clear Z az; intro az Z
 refine L (r_ld Tryz.isAgg3 Z rfl ((Blk.ca B5) 0 _ rfl)) Z rfl ?_; clear Z az; intro az Z
 have B9 := (Blk.k hB o4)
 refine L (r_ld Tryz.isAgg3 Z rfl (CA.first (Blk.ca B9))) Z rfl ?_; clear Z az; intro az Z
 refine L (r_neI Z rfl rfl) Z rfl ?_; clear Z az; intro az Z
 refine L (r_as Z rfl) Z rfl ?_; clear Z az; intro az Z
 refine k8 _ _ ?_
 refine wp_ret ?_
 show bodyPost _ _ _ .ret _ _
 refine ret_of (vs := [.bool ((!(decide (m.h = h))))]) Z Tryz.results28 ⟨rfl, trivial⟩ ?_
 exact ⟨rfl, o4⟩
theorem idxN_v_ {w : World} {p : Nat} {h : Int} (hB : Blk w p 3 [.int .i64 h].toArray) {l : List NM} {A1 : Option Addr} {c1 : Nat} (f1 : NotesV w w (.slice A1 l.length c1) l) : Calls Tryz.prog 55 [.slice A1 l.length c1, .func (.func 28) #[] [.pointer (some ⟨p, 0, none⟩)].toArray].toArray w (IdxN h l w) := by
 have hbd1 := Nat.le_trans (SliceOf.cap_ f1) (SliceOf.lens f1).2
 refine calls_start Tryz.func55 rfl rfl ?_
 intro az Z
 rw [Tryz.ntmps55] at Z
 refine wp_seq_k fun _ k1 => wp_region_lit ?_
 refine L (r_as Z rfl) Z rfl ?_; clear Z az; intro az Z
 refine k1 _ _ (wp_seq_k fun _ k2 => ?_)
 refine wp_seq_k fun _ k3 => wp_region_lit ?_
 refine L (r_mv Z rfl) Z rfl ?_; clear Z az; intro az Z
 refine L (r_lenL Tryz.underlying44 Z rfl) Z rfl ?_; clear Z az; intro az Z
 refine L (r_mv Z rfl) Z rfl ?_; clear Z az; intro az Z
 refine k3 _ _ ?_
 refine wp_block ?_
 refine wp_loop_m (fun mz az W => ∃ k : Nat, mz = l.length - k ∧ Fr 19 [(0, .slice A1 (l.length) c1), (1, .func (.func 28) #[] [.pointer (some ⟨p, 0, none⟩)].toArray), (7, .int .i64 (((l.length : Nat) : Int))), (8, .int .i64 ((k : Int)))] az ∧ (k ≤ l.length) ∧ (∀ m ∈ l.take k, m.h = h) ∧ Only NoF w W) ?_ ?_
 ·
  exact ⟨_, 0, rfl, Z.cut ⟨rfl, rfl, rfl, rfl, trivial⟩, Nat.zero_le _, (fun t h => by cases h), (Only.refl NoF w)⟩
 clear Z az
 rintro mz az w4 ⟨k, hm6, Z, hk, hall, o5⟩
 refine wp_seq_k fun _ k7 => wp_region_lit ?_
 refine L (r_ltI Z rfl rfl) Z rfl ?_; clear Z az; intro az Z
 refine k7 _ _ (wp_seq_k fun _ k8 => ?_)
 refine br Z rfl (fun hc9 => ?_) (fun hc9 => ?_)
 ·
  have p10 := of_decide_eq_true hc9
  refine wp_skip ?_
  refine k8 _ _ (wp_seq_k fun _ k11 => ?_)
  refine wp_block ?_
  refine wp_seq_k fun _ k12 => wp_region_lit ?_
  refine L (r_mv Z rfl) Z rfl ?_; clear Z az; intro az Z
  refine L (r_as Z rfl) Z rfl ?_; clear Z az; intro az Z
  refine k12 _ _ (wp_seq_k fun _ k13 => wp_region_lit ?_)
  refine L (r_mv Z rfl) Z rfl ?_; clear Z az; intro az Z
  refine L (r_mv Z rfl) Z rfl ?_; clear Z az; intro az Z
  refine L (r_mv Z rfl) Z rfl ?_; clear Z az; intro az Z
  have hk14 : k < (l).length := by omega
  have h20 := (SliceOf.kp f1 o5 (fun _ _ h => h) (fun _ _ _ _ h => h))
  obtain ⟨m15, hm16, ok17, hA18⟩ := Row.el (KNote w) h20 hk14
  have E19 : ∀ W, Only NoF w4 W → CA W (eA A1 5 (k)) [.int .i64 (m15.h), .int .i64 (m15.n), .int .i64 (m15.d), .slice m15.A (m15.l.length) m15.c, strV (m15.s)] := Row.ce (KNote w) h20 hm16 rfl
  refine L (r_ia (k := k) (size := 5) Tryz.underlying44 Tryz.sizeOf51 Z rfl rfl rfl hk14 hA18) Z rfl ?_; clear Z az; intro az Z
  refine L (r_ldA Tryz.isAgg51 Tryz.sizeOf51 Z rfl (E19 _ (Only.refl NoF w4)) rfl) Z rfl ?_; clear Z az; intro az Z
  have h23 := (SliceOf.kp ok17.2.2.2.1 o5 (fun _ _ h => h) (fun _ _ _ _ h => h))
  refine LCC Z rfl rfl Tryz.call28 (other_v_ (m := m15) (Blk.k hB o5) h23) rfl ?_
  rintro e w21 ⟨rfl, o22⟩; refine ⟨_, rfl, ?_⟩
  clear Z az; intro az Z
  refine k13 _ _ ?_
  refine br Z rfl (fun hc24 => ?_) (fun hc24 => ?_)
  ·
   have p25 := of_decide_eq_false (nt_t hc24)
   refine wp_seq_k fun _ k26 => wp_region_lit ?_
   refine L (r_mv Z rfl) Z rfl ?_; clear Z az; intro az Z
   refine L (r_as Z rfl) Z rfl ?_; clear Z az; intro az Z
   refine k26 _ _ ?_
   refine wp_ret ?_
   show bodyPost _ _ _ .ret _ _
   refine ret_of (vs := [.int .i64 ((k : Int))]) Z Tryz.results55 ⟨rfl, trivial⟩ ?_
   have O27 : Only NoF w w21 := (Only.trans' o5 o22)
   exact ⟨_, rfl, O27, .inr ⟨by omega, _, List.mem_of_getElem? hm16, of_decide_eq_false (nt_t hc24)⟩⟩
  ·
   have p28 := of_decide_eq_true (nt_f hc24)
   refine wp_skip ?_
   refine k11 _ _ ?_
   refine wp_region_lit ?_
   have i29 : I64 (((k : Int) + 1)) := by unfold I64; omega
   refine L (r_addI (r := ((k : Int) + 1)) Z rfl rfl rfl i29) Z rfl ?_; clear Z az; intro az Z
   refine L (r_mv Z rfl) Z rfl ?_; clear Z az; intro az Z
   have O30 : Only NoF w w21 := (Only.trans' o5 o22)
   exact ⟨_, (by omega), k + 1, rfl, Z.cut ⟨rfl, rfl, rfl, rfl, trivial⟩, (by omega), (opfew_step2 hm16 hall (of_decide_eq_true (nt_f hc24))), O30⟩
 ·
  have p31 := of_decide_eq_false hc9
  refine wp_exit ?_
  refine th_exit ?_
  refine th_exit ?_
  refine ib_hit ?_
  refine k2 _ _ (wp_seq_k fun _ k32 => wp_region_lit ?_)
  refine L (r_as Z rfl) Z rfl ?_; clear Z az; intro az Z
  refine k32 _ _ ?_
  refine wp_ret ?_
  show bodyPost _ _ _ .ret _ _
  refine ret_of (vs := [.int .i64 ((-1))]) Z Tryz.results55 ⟨rfl, trivial⟩ ?_
  rw [List.take_of_length_le (by omega)] at hall
  exact ⟨_, rfl, o5, .inl ⟨rfl, hall⟩⟩
theorem containsN_v_ {w : World} {p : Nat} {h : Int} (hB : Blk w p 3 [.int .i64 h].toArray) {l : List NM} {A1 : Option Addr} {c1 : Nat} (f1 : NotesV w w (.slice A1 l.length c1) l) : Calls Tryz.prog 30 [.slice A1 l.length c1, .func (.func 28) #[] [.pointer (some ⟨p, 0, none⟩)].toArray].toArray w (Fix (.bool (l.any fun m => !decide (m.h = h))) w) := by
 refine calls_start Tryz.func30 rfl rfl ?_
 intro az Z
 rw [Tryz.ntmps30] at Z
 refine wp_seq_k fun _ k1 => wp_region_lit ?_
 refine L (r_as Z rfl) Z rfl ?_; clear Z az; intro az Z
 refine k1 _ _ (wp_seq_k fun _ k2 => wp_region_lit ?_)
 refine L (r_mv Z rfl) Z rfl ?_; clear Z az; intro az Z
 refine L (r_mv Z rfl) Z rfl ?_; clear Z az; intro az Z
 refine LC Z rfl rfl Tryz.call55 (idxN_v_ hB f1) rfl ?_
 rintro e w3 ⟨q5, rfl, o4, hq6⟩; refine ⟨_, rfl, ?_⟩
 clear Z az; intro az Z
 refine L (r_geI Z rfl rfl) Z rfl ?_; clear Z az; intro az Z
 refine L (r_as Z rfl) Z rfl ?_; clear Z az; intro az Z
 refine k2 _ _ ?_
 refine wp_ret ?_
 show bodyPost _ _ _ .ret _ _
 refine ret_of (vs := [.bool (decide (0 ≤ q5))]) Z Tryz.results30 ⟨rfl, trivial⟩ ?_
 exact ⟨by rw [any_idx hq6]; rfl, o4⟩
theorem sAll_v_ {w : World} {g jg : Nat} {h : Int} {Ls : List NM} {A1 : Option Addr} {c1 : Nat} (hB : Blk w g 74 [.int .i64 h, .pointer (some ⟨jg, 0, none⟩), .slice A1 Ls.length c1].toArray) (f1 : NotesV w w (.slice A1 Ls.length c1) Ls) (hl : Ls.length ≤ 1000) (hb : ∀ m ∈ Ls, m.l.length ≤ 1000) : Calls Tryz.prog 23 [.pointer (some ⟨g, 0, none⟩)].toArray w (AllN (Ls.map ns) w) := by
 have hna : ∀ (l : List NM), ∀ z ∈ l, KN0.ok z := fun _ _ _ => trivial
 refine calls_start Tryz.func23 rfl rfl ?_
 intro az Z
 rw [Tryz.ntmps23] at Z
 refine wp_seq_k fun _ k1 => wp_region_lit ?_
 refine L (r_as Z rfl) Z rfl ?_; clear Z az; intro az Z
 refine k1 _ _ (wp_seq_k fun _ k2 => wp_region_lit ?_)
 refine L (r_mv Z rfl) Z rfl ?_; clear Z az; intro az Z
 refine L (r_nilP Z rfl) Z rfl ?_; clear Z az; intro az Z
 refine L (r_fa (m' := 2) Tryz.underlying74 rfl Tryz.sizeOf44 rfl Z rfl rfl) Z rfl ?_; clear Z az; intro az Z
 refine L (r_ld Tryz.isAgg44 Z rfl ((Blk.ca hB) 2 _ rfl)) Z rfl ?_; clear Z az; intro az Z
 refine LC Z rfl rfl Tryz.call46 (cloneNotes_v f1 (by omega)) rfl ?_
 rintro e w3 ⟨A5, c6, rfl, r7, o4⟩; refine ⟨_, rfl, ?_⟩
 clear Z az; intro az Z
 refine L (r_as Z rfl) Z rfl ?_; clear Z az; intro az Z
 refine k2 _ _ (wp_seq_k fun _ k8 => ?_)
 refine wp_seq_k fun _ k9 => wp_region_lit ?_
 refine L (r_mv Z rfl) Z rfl ?_; clear Z az; intro az Z
 refine L (r_lenL Tryz.underlying44 Z rfl) Z rfl ?_; clear Z az; intro az Z
 refine L (r_mv Z rfl) Z rfl ?_; clear Z az; intro az Z
 refine k9 _ _ ?_
 refine wp_block ?_
 refine wp_loop_m (fun mz az W => ∃ k : Nat, ∃ O : List NM, mz = Ls.length - k ∧ Fr 27 [(3, .slice A5 (Ls.length) c6), (11, .int .i64 (((Ls.length : Nat) : Int))), (12, .int .i64 ((k : Int)))] az ∧ (k ≤ Ls.length) ∧ (O.length = Ls.length) ∧ (O.map ns = Ls.map ns) ∧ (∀ j m, k ≤ j → O[j]? = some m → Ls[j]? = some m) ∧ Only NoF w W ∧ W.ownsRow w.heap.size 51 5 (.slice A5 (Ls.length) c6) Ls.length (List.flatMap KN0.cells O) ∧ (∀ j x, j < k → O[j]? = some x → okN (fun q => w.heap.size ≤ q ∧ ¬ ownF (.slice A5 Ls.length c6) q) W x)) ?_ ?_
 ·
  exact ⟨_, 0, Ls, rfl, Z.cut ⟨rfl, rfl, rfl, trivial⟩, Nat.zero_le _, rfl, rfl, (fun _ _ _ h => h), o4, r7, (fun j x hj _ => absurd hj (Nat.not_lt_zero j))⟩
 clear Z az
 rintro mz az w10 ⟨k, O, hm12, Z, hk, hOl, hON, hR, o11, rO, hN⟩
 have fO := own_len rO hOl
 refine wp_seq_k fun _ k13 => wp_region_lit ?_
 refine L (r_ltI Z rfl rfl) Z rfl ?_; clear Z az; intro az Z
 refine k13 _ _ (wp_seq_k fun _ k14 => ?_)
 refine br Z rfl (fun hc15 => ?_) (fun hc15 => ?_)
 ·
  have p16 := of_decide_eq_true hc15
  refine wp_skip ?_
  refine k14 _ _ (wp_seq_k fun _ k17 => ?_)
  refine wp_block ?_
  refine wp_seq_k fun _ k18 => wp_region_lit ?_
  refine L (r_mv Z rfl) Z rfl ?_; clear Z az; intro az Z
  refine L (r_as Z rfl) Z rfl ?_; clear Z az; intro az Z
  refine k18 _ _ ?_
  refine wp_region_lit ?_
  refine L (r_mv Z rfl) Z rfl ?_; clear Z az; intro az Z
  refine L (r_mv Z rfl) Z rfl ?_; clear Z az; intro az Z
  refine L (r_mv Z rfl) Z rfl ?_; clear Z az; intro az Z
  refine L (r_mv Z rfl) Z rfl ?_; clear Z az; intro az Z
  obtain ⟨m19, hm20, ok21, hA22⟩ := Row.el KN0 fO (show k < _ by omega)
  have E23 : ∀ W, Only NoF w10 W → CA W (eA A5 5 (k)) [.int .i64 (m19.h), .int .i64 (m19.n), .int .i64 (m19.d), .slice m19.A (m19.l.length) m19.c, strV (m19.s)] := Row.ce KN0 fO hm20 rfl
  refine L (r_ia (k := k) (size := 5) Tryz.underlying44 Tryz.sizeOf51 Z rfl rfl rfl (show k < _ by omega) hA22) Z rfl ?_; clear Z az; intro az Z
  refine L (r_fa (m' := 3) Tryz.underlying51 rfl Tryz.sizeOf36 rfl Z rfl rfl) Z rfl ?_; clear Z az; intro az Z
  refine L (r_ld Tryz.isAgg36 Z rfl ((E23 _ (Only.refl NoF w10)) 3 _ rfl)) Z rfl ?_; clear Z az; intro az Z
  have h29 := (SliceOf.kp (nt_ok f1 _ (List.mem_of_getElem? (hR _ _ (Nat.le_refl _) hm20))).2.2.2.1 o11 (fun _ _ h => h) (fun _ _ _ _ h => h))
  refine LC Z rfl rfl Tryz.call47 (cloneRefs_v h29 (Nat.le_trans (hb _ (List.mem_of_getElem? (hR _ _ (Nat.le_refl _) hm20))) (by decide))) rfl ?_
  rintro e w24 ⟨A26, c27, rfl, r28, o25⟩; refine ⟨_, rfl, ?_⟩
  clear Z az; intro az Z
  refine L (r_ia (k := k) (size := 5) Tryz.underlying44 Tryz.sizeOf51 Z rfl rfl rfl (show k < _ by omega) hA22) Z rfl ?_; clear Z az; intro az Z
  refine L (r_fa (m' := 3) Tryz.underlying51 rfl Tryz.sizeOf36 rfl Z rfl rfl) Z rfl ?_; clear Z az; intro az Z
  refine LStE (size := 5) (k := k) (j := 3) Tryz.sizeOf36 Z rfl rfl rfl rfl rfl (ow_k rO o25) hA22 (by omega) (by decide) fun w30 o31 r32 => ?_
  refine k17 _ _ ?_
  refine wp_region_lit ?_
  have i33 : I64 (((k : Int) + 1)) := by unfold I64; omega
  refine L (r_addI (r := ((k : Int) + 1)) Z rfl rfl rfl i33) Z rfl ?_; clear Z az; intro az Z
  refine L (r_mv Z rfl) Z rfl ?_; clear Z az; intro az Z
  have hn34 : okN (fun q => w.heap.size ≤ q ∧ ¬ ownF (.slice A5 Ls.length c6) q) w30 (⟨m19.h, m19.n, m19.d, A26, m19.l, c27, m19.s⟩ : NM) := okN.only (okN.sup (okN.behind (clone_ok (nt_ok f1 _ (List.mem_of_getElem? (hR _ _ (Nat.le_refl _) hm20))) r28) (ow_k rO (Only.refl NoF w10))) fun q hq => ⟨Nat.le_trans (size_only o11) hq.1, hq.2⟩) o31 (fun q hq => hq.2)
  have hn35 := all_step hm20 (fun j x hj hx => okN.only (okN.only (hN j x hj hx) o25 (fun _ _ h => h)) o31 (fun q hq => hq.2)) hn34
  have O36 : Only NoF w w30 := (o_sg (Only.trans' o11 o25) o31 (Nat.le_refl _) (ownF_ge rO))
  exact ⟨_, (by omega), k + 1, (O.set k (⟨m19.h, m19.n, m19.d, A26, m19.l, c27, m19.s⟩ : NM)), rfl, Z.cut ⟨rfl, rfl, rfl, trivial⟩, (by omega), (by rw [List.length_set]; exact hOl), ((set_ns (m' := (⟨m19.h, m19.n, m19.d, A26, m19.l, c27, m19.s⟩ : NM)) hm20 rfl).trans hON), (rest_step hR), O36, (by rw [← flat_set _ _ _ hm20]; exact r32), hn35⟩
 ·
  have p37 := of_decide_eq_false hc15
  refine wp_exit ?_
  refine th_exit ?_
  refine th_exit ?_
  refine ib_hit ?_
  refine k8 _ _ (wp_seq_k fun _ k38 => wp_region_lit ?_)
  refine L (r_mv Z rfl) Z rfl ?_; clear Z az; intro az Z
  refine L (r_as Z rfl) Z rfl ?_; clear Z az; intro az Z
  refine k38 _ _ ?_
  refine wp_ret ?_
  show bodyPost _ _ _ .ret _ _
  refine ret_of (vs := [.slice A5 (Ls.length) c6]) Z Tryz.results23 ⟨rfl, trivial⟩ ?_
  exact ⟨A5, c6, O, by rw [hOl]; rfl, hON, (by rw [hOl]; exact rO), (by rw [hOl]; exact all_end hN (by omega)), o11⟩
end
section
open Go.RowKit
abbrev stoCells (h : Int) (jg : Nat) (A : Option Addr) (n c : Nat) : Array Value := #[.int .i64 h, .pointer (some ⟨jg, 0, none⟩), .slice A n c]
/-- the store's own blocks; its notes' needs lie in S -/
def SB (g jg : Nat) (h : Int) (N : List NM) : Thing := fun w F => ∃ A c Ls S, Ls.map ns = N ∧ Blk w g 74 (stoCells h jg A Ls.length c) ∧ w.ownsRow 0 51 5 (.slice A Ls.length c) Ls.length (Ls.flatMap KN0.cells) ∧ OkNs S w Ls ∧
 (∀ k, S k → k < w.heap.size) ∧ (∀ k, S k → ¬ (k = g ∨ ownF (.slice A Ls.length c) k)) ∧ F = ⟨fun k => k = g ∨ ownF (.slice A Ls.length c) k, S⟩
theorem sb_good (g jg : Nat) (h : Int) (N : List NM) : Good (SB g jg h N) where
 only := by
  rintro w w' F G ⟨A, c, Ls, S, e, h1, h2, h3, h4, h5, rfl⟩ ho hG
  exact ⟨A, c, Ls, S, e, h1.only ho (hG g (.inl (.inl rfl))), ow_only h2 ho fun k hk => hG k (.inl (.inr hk)), h3.only ho fun k hk => hG k (.inr hk), fun k hk => Nat.lt_of_lt_of_le (h4 k hk) ho.size, h5, rfl⟩
 lt := by
  rintro w F ⟨A, c, Ls, S, e, h1, h2, h3, h4, h5, rfl⟩ k ((rfl | hk) | hk)
  · exact Blk.lt h1
  · exact ownF_lt h2 k hk
  · exact h4 k hk
abbrev ST (b g jg : Nat) (D : Dsk) (h : Int) (J : Jn) : Thing := BothT (SB g jg h (J.l.map decN)) (JT b jg D J)
theorem st_good (b g jg : Nat) (D : Dsk) (h : Int) (J : Jn) : Good (ST b g jg D h J) := BothT.good (sb_good _ _ _ _) (jt_good _ _ _ _)
theorem ow_zero {w : World} {base : Nat} {e : TypeId} {size n : Nat} {v : Value} {xs : List Value} (h : w.ownsRow base e size v n xs) : w.ownsRow 0 e size v n xs := ow_low h (Nat.zero_le _)
theorem ST.make {w : World} {b g jg base : Nat} {D : Dsk} {h : Int} {J : Jn} {F : Foot} {A : Option Addr} {c : Nat} {Ls : List NM} {S : Nat → Prop} (h1 : Blk w g 74 (stoCells h jg A Ls.length c)) (h2 : w.ownsRow base 51 5 (.slice A Ls.length c) Ls.length (Ls.flatMap KN0.cells)) (h3 : OkNs S w Ls)
 (h4 : ∀ k, S k → k < w.heap.size) (h5 : ∀ k, S k → ¬ (k = g ∨ ownF (.slice A Ls.length c) k)) (e : Ls.map ns = J.l.map decN) (hj : JT b jg D J w F) (s1 : ¬ F.all g) (s2 : ∀ k, ownF (.slice A Ls.length c) k → ¬ F.all k) (s3 : ∀ k, S k → ¬ F.m k) :
 ST b g jg D h J w ⟨fun k => (k = g ∨ ownF (.slice A Ls.length c) k) ∨ F.m k, fun k => S k ∨ F.r k⟩ :=
 ⟨⟨fun k => k = g ∨ ownF (.slice A Ls.length c) k, S⟩, F, ⟨A, c, Ls, S, e, h1, ow_zero h2, h3, h4, h5, rfl⟩, hj, fun k hk => hk.elim (fun e => by subst e; exact s1) (s2 k), fun k hk hG => hG.elim (fun hG => hG.elim (fun e => by subst e; exact s1 (.inl hk)) fun hG => s2 k hG (.inl hk)) (fun hG => s3 k hG hk), rfl⟩
theorem ST.disk {w : World} {b g jg : Nat} {D : Dsk} {h : Int} {J : Jn} {F : Foot} (hs : ST b g jg D h J w F) : ∃ F2, DiskT b D w F2 ∧ (∀ k, F2.m k → F.m k) ∧ ∀ k, F2.r k → F.r k := by
 obtain ⟨G1, G2, _, h2, _, _, rfl⟩ := hs
 obtain ⟨F2, h3, hm, hr⟩ := JT.disk h2
 exact ⟨F2, h3, fun k hk => .inr (hm k hk), fun k hk => .inr (hr k hk)⟩
theorem okN.lt2 {w : World} {m : NM} {b : Nat} (h : okN (geB b) w m) : okN (fun k => b ≤ k ∧ k < w.heap.size) w m := by
 obtain ⟨h1, h2, h3, ⟨A, cap, xs, e, q1, q2, q3, q4⟩, h5⟩ := h
 refine ⟨h1, h2, h3, ⟨A, cap, xs, e, q1, q2, ⟨q3.1, fun hn => ?_⟩, q4⟩, h5⟩
 obtain ⟨ad, e, hg, hl, hc⟩ := q3.2 hn
 exact ⟨ad, e, ⟨hg, hl⟩, hl, hc⟩
/-! ### what Next and Encode give -/
def NextY (n : NM) (w : World) (e : Ending) (w' : World) : Prop := ∃ m : NM, ns m = n ∧ e = .returned (.tuple #[noteV m, .int .i64 0]) ∧ Only NoF w w' ∧ okN (geB w.heap.size) w' m
section
variable {w : World} {v v2 : Value} {Ls : List NM} {q : List RM} {h d : Int} {t : Str} {l : List Str}
theorem chk_same (eL : Ls.map ns = l.map decN) : check (Ls ++ [(⟨h, ((Ls.length : Nat) : Int), d, none, q, 0, t⟩ : NM)]) = check (l.map decN ++ [newN h l d q t]) := by
 rw [check_app eL, List.length_map]
theorem sNext_n (f1 : NotesV w w v Ls) (f2 : RefsV w v2 q) (hh : I64 h) (hd : I64 d) (ht : t.length ≤ maxLen) (hl : Ls.length ≤ 1000) (hq : q.length ≤ 1000) (eL : Ls.map ns = l.map decN) (hz : check (l.map decN ++ [newN h l d q t]) ≠ 0) : Calls Tryz.prog 37 [v, .int .i64 h, .int .i64 d, v2, strV t].toArray w (Fix (.tuple #[.agg #[.int .i64 0, .int .i64 0, .int .i64 0, .slice none 0 0, strV []], .int .i64 (check (l.map decN ++ [newN h l d q t]))]) w) := by
 refine (Next_v f1 f2 hh hd ht hl hq).mono ?_
 rintro e w' ⟨v, rfl, o, h | h⟩
 · obtain ⟨_, rfl⟩ := h
   exact ⟨by rw [chk_same eL], o⟩
 · rw [chk_same eL] at h; exact absurd h.1 hz
theorem sNext_y (f1 : NotesV w w v Ls) (f2 : RefsV w v2 q) (hh : I64 h) (hd : I64 d) (ht : t.length ≤ maxLen) (hl : Ls.length ≤ 1000) (hq : q.length ≤ 1000) (eL : Ls.map ns = l.map decN) (hz : check (l.map decN ++ [newN h l d q t]) = 0) : Calls Tryz.prog 37 [v, .int .i64 h, .int .i64 d, v2, strV t].toArray w (NextY (newN h l d q t) w) := by
 have hL : Ls.length = l.length := by have := congrArg List.length eL; rwa [List.length_map, List.length_map] at this
 refine (Next_v f1 f2 hh hd ht hl hq).mono ?_
 rintro e w' ⟨v, rfl, o, h | h⟩
 · rw [chk_same eL] at h; exact absurd hz h.1
 · obtain ⟨_, m, rfl, h1, h2, h3, h4, h5, ok, sg⟩ := h
   refine ⟨m, ?_, by rw [chk_same eL, hz], o, okN.of ok sg⟩
   unfold ns
   rw [h1, h2, h3, h4, h5, hL]
theorem rNext_n (f1 : NotesV w w v Ls) (f2 : RefsV w v2 q) (hh : I64 h) (hd : I64 d) (ht : t.length ≤ maxLen) (hl : Ls.length ≤ 1000) (hq : q.length ≤ 1000) (eL : Ls.map ns = l.map decN) (hz : check (l.map decN ++ [newN h l d q t]) ≠ 0) : Calls Tryz.prog 40 [v, .int .i64 h, .int .i64 d, v2, strV t].toArray w (Fix (.tuple #[.agg #[.int .i64 0, .int .i64 0, .int .i64 0, .slice none 0 0, strV []], .int .i64 (check (l.map decN ++ [newN h l d q t]))]) w) := by
 refine (rNext_v f1 f2 hh hd ht hl hq).mono ?_
 rintro e w' ⟨v, rfl, o, h | h⟩
 · obtain ⟨_, rfl⟩ := h
   exact ⟨by rw [chk_same eL], o⟩
 · rw [chk_same eL] at h; exact absurd h.1 hz
theorem rNext_y (f1 : NotesV w w v Ls) (f2 : RefsV w v2 q) (hh : I64 h) (hd : I64 d) (ht : t.length ≤ maxLen) (hl : Ls.length ≤ 1000) (hq : q.length ≤ 1000) (eL : Ls.map ns = l.map decN) (hz : check (l.map decN ++ [newN h l d q t]) = 0) : Calls Tryz.prog 40 [v, .int .i64 h, .int .i64 d, v2, strV t].toArray w (NextY (newN h l d q t) w) := by
 have hL : Ls.length = l.length := by have := congrArg List.length eL; rwa [List.length_map, List.length_map] at this
 refine (rNext_v f1 f2 hh hd ht hl hq).mono ?_
 rintro e w' ⟨v, rfl, o, h | h⟩
 · rw [chk_same eL] at h; exact absurd hz h.1
 · obtain ⟨_, m, rfl, h1, h2, h3, h4, h5, ok, sg⟩ := h
   refine ⟨m, ?_, by rw [chk_same eL, hz], o, okN.of ok sg⟩
   unfold ns
   rw [h1, h2, h3, h4, h5, hL]
theorem sEnc_y (hG : Gr w) {m n : NM} (hm : ns m = n) (hr : right n = true) {S : Nat → Prop} (hk : okN S w m) : Calls Tryz.prog 38 [noteV m].toArray w (Fix (.tuple #[strV (encN n), .bool true]) w) := by
 have := Encode_v hG hk.note
 subst hm
 rw [right_ns] at hr
 rw [hr, if_pos rfl] at this
 rw [enc_ns]; exact this
theorem rEnc_y {m n : NM} (hm : ns m = n) (hr : right n = true) {S : Nat → Prop} (hk : okN S w m) : Calls Tryz.prog 41 [noteV m].toArray w (Fix (.tuple #[strV (encN n), .bool true]) w) := by
 have := rEncode_v hk.note
 subst hm
 rw [right_ns] at hr
 rw [hr, if_pos rfl] at this
 rw [enc_ns]; exact this
theorem enc_short {n : NM} (hq : ∀ r ∈ n.l, I64 r.h ∧ I64 r.n) (hr : right n = true) : (encN n).length ≤ 900000 := by
 obtain ⟨l1, l2⟩ := right_len hr
 obtain ⟨⟨a, _⟩, ⟨b, _⟩, ⟨c, _⟩⟩ := right_ok hr
 have h1 := numE_len a
 have h2 := numE_len b
 have h3 := numE_len c
 have h4 := text_size2 (s := n.s) (by omega)
 have h5 : (Wr.numsE (flat2 n.l)).length ≤ 2000 := numsE_len (fun x hx => by
  unfold flat2 at hx
  obtain ⟨r, hr, hx⟩ := List.mem_flatMap.1 hx
  simp at hx
  rcases hx with rfl | rfl
  · exact (hq r hr).1
  · exact (hq r hr).2) (by rw [flat2_len]; omega)
 simp only [encN, List.length_append]
 omega
end
section
variable {J : Jn} {D : Dsk} {h d : Int} {q : List RM} {t : Str}
theorem writeS_n (hz : check (J.l.map decN ++ [newN h J.l d q t]) ≠ 0) : J.writeS D h d q t = (D, J, check (J.l.map decN ++ [newN h J.l d q t])) := by unfold Jn.writeS; rw [if_neg hz]
theorem writeS_y (hz : check (J.l.map decN ++ [newN h J.l d q t]) = 0) : J.writeS D h d q t = J.append D (encN (newN h J.l d q t)) := by unfold Jn.writeS; rw [if_pos hz]
theorem app_ne {x : Str} (h : ¬ (J.append D x).2.2 = 0) : (J.append D x).2.1.l = J.l := by
 rcases app_l J D x with h1 | h1
 · exact h1.2
 · exact absurd h1.1 h
theorem app_eq {x : Str} (h : (J.append D x).2.2 = 0) : (J.append D x).2.1.l = J.l ++ [x] := by
 rcases app_l J D x with h1 | h1
 · exact absurd h h1.1
 · exact h1.2
theorem wrote_map {Ls : List NM} {m : NM} (hq : ∀ r ∈ q, I64 r.h ∧ I64 r.n) (hz : check (J.l.map decN ++ [newN h J.l d q t]) = 0) (hm : ns m = newN h J.l d q t) (eL : Ls.map ns = J.l.map decN) (h0 : (J.append D (encN (newN h J.l d q t))).2.2 = 0) : (Ls ++ [m]).map ns = (J.append D (encN (newN h J.l d q t))).2.1.l.map decN := by
 rw [app_eq h0, List.map_append, List.map_append, eL, List.map_singleton, List.map_singleton, hm, (new_dec hq hz).2]
end
theorem build_Sto (h : Int) (p : Option Addr) (A : Option Addr) (k c : Nat) (w : World) : (Instr.build 74 #[(0, .int .i64 h), (1, .pointer p), (2, .slice A k c)]).run Tryz.prog w = .ok (.agg #[.int .i64 h, .pointer p, .slice A k c]) w := by kernel_rfl
/-- telling: the notes come up behind the world in which the thing has turned -/
def TellTo (N : List NM) (er : Int) (X : Thing) (w : World) (F : Foot) (e : Ending) (w' : World) : Prop := ∃ w1 A c L, ThingTo X w F w1 ∧ e = .returned (.tuple #[.slice A L.length c, .int .i64 er]) ∧ L.map ns = (if er = 0 then N else []) ∧
 w'.ownsRow w1.heap.size 51 5 (.slice A L.length c) L.length (L.flatMap KN0.cells) ∧ OkNs (fun k => w1.heap.size ≤ k ∧ ¬ ownF (.slice A L.length c) k) w' L ∧ Only NoF w1 w'
/-- opening's outcome -/
def OpenSTo (b : Nat) (r : Dsk × Int × Option Jn) (h : Int) (w : World) (F : Foot) (e : Ending) (w' : World) : Prop :=
 (r.2.2 = none ∧ e = .returned (.tuple #[.pointer none, .int .i64 r.2.1]) ∧ ThingTo (DiskT b r.1) w F w') ∨
 ∃ J g jg, r.2.2 = some J ∧ e = .returned (.tuple #[.pointer (some ⟨g, 0, none⟩), .int .i64 r.2.1]) ∧ ThingTo (ST b g jg r.1 h J) w F w'
theorem open_s {w : World} (hG : Gr w) {b : Nat} {D : Dsk} {F : Foot} (hd : DiskT b D w F) (h6 : ∀ k, F.m k → 6 ≤ k) {f : Int} : Calls Tryz.prog 25 [.pointer (some ⟨b, 0, none⟩), .int .i64 f].toArray w fun e w' => ∃ v, e = .returned v ∧
 (((openJ D f).2.2 = none ∧ v = .tuple #[.pointer none, .int .i64 (openJ D f).2.1] ∧ ThingTo (DiskT b (openJ D f).1) w F w') ∨ ∃ J jg, (openJ D f).2.2 = some J ∧ v = .tuple #[.pointer (some ⟨jg, 0, none⟩), .int .i64 (openJ D f).2.1] ∧ ThingTo (JT b jg (openJ D f).1 J) w F w') := by
 refine (Open_v_ hG hd h6 (f := f)).mono ?_
 rintro e w' (⟨h1, rfl, ht⟩ | ⟨J, g, h1, rfl, ht⟩)
 · exact ⟨_, rfl, .inl ⟨h1, rfl, ht⟩⟩
 · exact ⟨_, rfl, .inr ⟨J, g, h1, rfl, ht⟩⟩
section
variable {D : Dsk} {h : Int} {J : Jn} {L : List NM}
theorem openS_arg (ha : h < 0 ∨ 400 ≤ h) : openS D h = (D, 1, none) := by unfold openS; rw [if_pos ha]
theorem openS_none (ha : ¬ (h < 0 ∨ 400 ≤ h)) (hn : (openJ D 0).2.2 = none) : openS D h = ((openJ D 0).1, (openJ D 0).2.1, none) := by unfold openS; rw [if_neg ha, hn]
theorem openS_bad (ha : ¬ (h < 0 ∨ 400 ≤ h)) (hs : (openJ D 0).2.2 = some J) (hg : goodL h J.l = false) : openS D h = ((openJ D 0).1, 2, none) := by
 unfold openS
 rw [if_neg ha, hs]
 exact if_neg (by rw [hg]; decide)
theorem openS_some (ha : ¬ (h < 0 ∨ 400 ≤ h)) (hs : (openJ D 0).2.2 = some J) (hg : goodL h J.l = true) : openS D h = ((openJ D 0).1, 0, some J) := by
 unfold openS
 rw [if_neg ha, hs]
 exact if_pos hg
theorem good_no1 (h1 : J.l.all decOk = false) : goodL h J.l = false := by unfold goodL; rw [h1]; rfl
theorem good_no2 (e : L.map ns = J.l.map decN) (h1 : decide (check L = 0) = false) : goodL h J.l = false := by
 unfold goodL
 rw [← check_eq e, h1]; simp
theorem any_all (e : L.map ns = J.l.map decN) : (J.l.map decN).all (fun m => decide (m.h = h)) = !(L.any fun m => !decide (m.h = h)) := by
 rw [← e]
 clear e
 induction L with
 | nil => rfl
 | cons a l ih =>
  rw [List.map_cons, List.all_cons, List.any_cons, ih, Bool.not_or, Bool.not_not]; rfl
theorem good_no3 (e : L.map ns = J.l.map decN) (h1 : (L.any fun m => !decide (m.h = h)) = true) : goodL h J.l = false := by
 unfold goodL
 rw [any_all e, h1]; simp
theorem good_yes (h0 : J.l.all decOk = true) (e : L.map ns = J.l.map decN) (h1 : decide (check L = 0) = true) (h2 : (L.any fun m => !decide (m.h = h)) = false) : goodL h J.l = true := by
 unfold goodL
 rw [any_all e, h2, ← check_eq e, h0, h1]; rfl
theorem OkNs.lt3 {w : World} {b : Nat} {P : Nat → Prop} {l : List NM} (h : OkNs (fun k => b ≤ k ∧ ¬ P k) w l) : OkNs (fun k => b ≤ k ∧ k < w.heap.size ∧ ¬ P k) w l := fun m hm => by
 obtain ⟨h1, h2, h3, ⟨A, cap, xs, e, q1, q2, q3, q4⟩, h5⟩ := h m hm
 refine ⟨h1, h2, h3, ⟨A, cap, xs, e, q1, q2, ⟨q3.1, fun hn => ?_⟩, q4⟩, h5⟩
 obtain ⟨ad, e, hg, hl, hc⟩ := q3.2 hn
 exact ⟨ad, e, ⟨hg.1, hl, hg.2⟩, hl, hc⟩
theorem need_len (hs : SI h J) (e : L.map ns = J.l.map decN) : ∀ m ∈ L, m.l.length ≤ 1000 := by
 intro m hm
 have hm2 : ns m ∈ J.l.map decN := by rw [← e]; exact List.mem_map_of_mem hm
 obtain ⟨k, hk⟩ := List.getElem?_of_mem hm2
 have hr := (check_zero (good_iff.1 hs.2).2.1 k _ hk).1
 have := (right_len hr).1
 have e2 : (ns m).l = m.l := rfl
 rw [e2] at this
 omega
end
theorem sWrite_n_ {w : World} (hG : Gr w) {b g jg : Nat} {D : Dsk} {h : Int} {J : Jn} {Ls : List NM} {A : Option Addr} {c : Nat} {F : Foot} {S : Nat → Prop} (hB : Blk w g 74 (stoCells h jg A Ls.length c)) (rO : w.ownsRow 0 51 5 (.slice A Ls.length c) Ls.length (Ls.flatMap KN0.cells)) (hok : OkNs S w Ls) (hlt : ∀ k, S k → k < w.heap.size) (hap : ∀ k, S k → ¬ (k = g ∨ ownF (.slice A Ls.length c) k)) (eL : Ls.map ns = J.l.map decN) (hj : JT b jg D J w F) (s1 : ¬ F.all g) (s2 : ∀ k, ownF (.slice A Ls.length c) k → ¬ F.all k) (s3 : ∀ k, S k → ¬ F.m k) (h6 : ∀ k, (fun k => (k = g ∨ ownF (.slice A Ls.length c) k) ∨ F.m k) k → 6 ≤ k) (hsi : SI h J) {d : Int} {q : List RM} {t : Str} {A2 : Option Addr} {c2 : Nat} (f2 : RefsV w (.slice A2 q.length c2) q) (hh : I64 h) (hd : I64 d) (ht : t.length ≤ maxLen) (hq : q.length ≤ 1000) (hz : check (J.l.map decN ++ [newN h J.l d q t]) ≠ 0) : Calls Tryz.prog 18 [.pointer (some ⟨g, 0, none⟩), .int .i64 d, .slice A2 q.length c2, strV t].toArray w (TurnTo (.int .i64 (J.writeS D h d q t).2.2) (ST b g jg (J.writeS D h d q t).1 h (J.writeS D h d q t).2.1) w (⟨fun k => (k = g ∨ ownF (.slice A Ls.length c) k) ∨ F.m k, fun k => S k ∨ F.r k⟩ : Foot)) := by
 have hna : ∀ (l : List NM), ∀ z ∈ l, KN0.ok z := fun _ _ _ => trivial
 have hsl := si_len hsi
 have hLl : Ls.length = J.l.length := by have := congrArg List.length eL; rwa [List.length_map, List.length_map] at this
 have hF0 : ∀ k, F.all k → k < w.heap.size := fun k hk => (jt_good b jg D J).lt hj k hk
 have hrl : ∀ k, ownF (.slice A Ls.length c) k → k < w.heap.size := fun k hk => ownF_lt rO k hk
 refine calls_start Tryz.func18 rfl rfl ?_
 intro az Z
 rw [Tryz.ntmps18] at Z
 refine wp_seq_k fun _ k1 => wp_region_lit ?_
 refine L (r_as Z rfl) Z rfl ?_; clear Z az; intro az Z
 refine k1 _ _ (wp_seq_k fun _ k2 => ?_)
 refine reg_p NoF 2 [11, 15, 16] (.rd 0 (.rd 1 (.rd 2 (.rd 3 (.rd 4 (.rd 5 (.rd 6 (.rd 7 (.rd 8 (.rd 9 (.rd 10 (.fork 11 (.rd 12 (.rd 13 (.rd 14 (.ex 15 (.ex 16 (.rd 17 .nil)))))) 15 (.ex 11 (.rd 12 (.rd 13 (.rd 14 (.ex 16 (.rd 17 .nil)))))))))))))))))) (by kernel_rfl) (by kernel_rfl) (fun _ _ _ _ _ h => h) fun w3 o4 => ?_
 have B5 := (Blk.k hB o4)
 refine Pl.MSP (b := true) (by kernel_rfl) (fun W oW => r_mv Z rfl) Z rfl rfl ?_; clear Z az; intro az Z
 refine Pl.MSP (b := true) (by kernel_rfl) (fun W oW => r_nilP Z rfl) Z rfl rfl ?_; clear Z az; intro az Z
 refine Pl.MSP (b := true) (by kernel_rfl) (fun W oW => r_fa (m' := 2) Tryz.underlying74 rfl Tryz.sizeOf44 rfl Z rfl rfl) Z rfl rfl ?_; clear Z az; intro az Z
 refine Pl.MSP (b := true) (by kernel_rfl) (fun W oW => r_ld Tryz.isAgg44 Z rfl ((Blk.ca (Blk.k B5 oW)) 2 _ rfl)) Z rfl rfl ?_; clear Z az; intro az Z
 refine Pl.MSP (b := true) (by kernel_rfl) (fun W oW => r_mv Z rfl) Z rfl rfl ?_; clear Z az; intro az Z
 refine Pl.MSP (b := true) (by kernel_rfl) (fun W oW => r_nilP Z rfl) Z rfl rfl ?_; clear Z az; intro az Z
 refine Pl.MSP (b := true) (by kernel_rfl) (fun W oW => r_fa (m' := 0) Tryz.underlying74 rfl Tryz.sizeOf3 rfl Z rfl rfl) Z rfl rfl ?_; clear Z az; intro az Z
 refine Pl.MSP (b := true) (by kernel_rfl) (fun W oW => r_ld Tryz.isAgg3 Z rfl ((Blk.ca (Blk.k B5 oW)) 0 _ rfl)) Z rfl rfl ?_; clear Z az; intro az Z
 refine Pl.MSP (b := true) (by kernel_rfl) (fun W oW => r_mv Z rfl) Z rfl rfl ?_; clear Z az; intro az Z
 refine Pl.MSP (b := true) (by kernel_rfl) (fun W oW => r_mv Z rfl) Z rfl rfl ?_; clear Z az; intro az Z
 refine Pl.MSP (b := true) (by kernel_rfl) (fun W oW => r_mv Z rfl) Z rfl rfl ?_; clear Z az; intro az Z
 refine wpPl_fork ?_ ?_
 ·
  have r6 := (ow_k rO o4)
  refine Pl.MSV (v := .tuple #[.agg #[.int .i64 (0), .int .i64 (0), .int .i64 (0), .slice none (0) 0, strV ([])], .int .i64 ((check (J.l.map decN ++ [newN h J.l d q t])))]) Z rfl rfl rfl Tryz.call37 (sNext_n (notes_of r6 (OkNs.k hok o4)) (SliceOf.kp f2 o4 (fun _ _ h => h) (fun _ _ _ _ h => h)) hh hd ht (by omega) (by omega) eL hz) rfl (fun w' o' => ⟨fun _ => o', (Only.trans (Only.refl NoF w3) o' (fun _ h => h.elim))⟩) fun w7 o8 => ?_; clear Z az; intro az Z
  refine Pl.MSP (b := true) (by kernel_rfl) (fun W oW => r_mv Z rfl) Z rfl rfl ?_; clear Z az; intro az Z
  refine Pl.MSP (b := true) (by kernel_rfl) (fun W oW => r_ex Z rfl rfl) Z rfl rfl ?_; clear Z az; intro az Z
  refine Pl.MSP (b := false) (by kernel_rfl) (fun W oW => r_ex Z rfl rfl) Z rfl rfl ?_; clear Z az; intro az Z
  obtain ⟨g9, w10, hw, hA, hg13, hl14, o11, B12⟩ := newBlk (w := w7) (e := 51) (cs := [.int .i64 (0), .int .i64 (0), .int .i64 (0), .slice none (0) 0, strV ([])])
  refine Pl.MD (r_al (v := .agg #[.int .i64 (0), .int .i64 (0), .int .i64 (0), .slice none (0) 0, strV ([])]) Tryz.zeroValue51 rfl) Z rfl rfl ?_ ?_
  · rw [← hw]; exact ⟨fun _ => (Only.trans' o8 o11), (Only.trans (Only.trans (Only.refl NoF w3) o8 (fun _ h => h.elim)) o11 (fun _ h => h.elim))⟩
  rw [← hw, ← hA]; clear Z az; intro az Z
  clear hw hA
  refine Pl.MSS (cs' := [.int .i64 (0), .int .i64 (0), .int .i64 (0), .slice none (0) 0, strV ([])]) Tryz.sizeOf51 Z rfl rfl rfl rfl rfl rfl ⟨rfl, rfl, rfl, rfl, rfl, trivial⟩ B12 rfl rfl fun w15 s16 B17 => ?_
  refine ⟨⟨fun h => absurd h (by decide), (Only.trans (Only.trans (Only.trans (Only.refl NoF w3) o8 (fun _ h => h.elim)) o11 (fun _ h => h.elim)) s16 (fun k h => .inr (Nat.le_trans (size_only o8) ((oneF_ge hg13) k h))))⟩, ?_⟩
  refine Pl.MSP (b := false) (by kernel_rfl) (fun W oW => r_as Z rfl) Z rfl rfl ?_; clear Z az; intro az Z
  refine wpPl_nil ?_
  refine k2 _ _ (wp_seq_k fun _ k18 => ?_)
  refine wp_seq_k fun _ k19 => wp_region_lit ?_
  refine L (r_mv Z rfl) Z rfl ?_; clear Z az; intro az Z
  refine L (r_neI Z rfl rfl) Z rfl ?_; clear Z az; intro az Z
  refine k19 _ _ ?_
  refine br Z rfl (fun hc20 => ?_) (fun hc20 => ?_)
  ·
   have p21 := of_decide_eq_false (nt_t hc20)
   refine wp_seq_k fun _ k22 => wp_region_lit ?_
   refine L (r_mv Z rfl) Z rfl ?_; clear Z az; intro az Z
   refine L (r_as Z rfl) Z rfl ?_; clear Z az; intro az Z
   refine k22 _ _ ?_
   refine wp_ret ?_
   show bodyPost _ _ _ .ret _ _
   refine ret_of (vs := [.int .i64 ((check (J.l.map decN ++ [newN h J.l d q t])))]) Z Tryz.results18 ⟨rfl, trivial⟩ ?_
   rw [writeS_n hz]; refine ⟨rfl, ?_⟩
   have O23 : Only NoF w w10 := (Only.trans' (Only.trans' o4 o8) o11)
   have O24 : Only NoF w w7 := (Only.trans' o4 o8)
   have T25 : (JT b jg D J) w15 F := ((jt_good b jg D J).only ((jt_good b jg D J).only hj O23 (fun _ _ h => h)) s16 (fun k hk (e : k = g9) => (fun h => absurd ((jt_good b jg D J).lt hj _ h) (Nat.not_lt.2 (Nat.le_trans (size_only O24) hg13))) (by rw [← e]; exact hk)))
   have ho26 := OkNs.only (F := (fun k => (k = g ∨ ownF (.slice A Ls.length c) k) ∨ F.m k)) hok (Only.trans (Only.trans (Only.trans (Only.trans (Only.refl _ w) o4 (fun _ h => h.elim)) o8 (fun _ h => h.elim)) o11 (fun _ h => h.elim)) s16 (fun k h => .inr (Nat.le_trans (size_only O24) ((oneF_ge hg13) k h)))) (fun k hk hP => hP.elim (hap k hk) (s3 k hk))
   have O27 : Only NoF w w15 := (o_sg O23 s16 (size_only O24) (oneF_ge hg13))
   have ne28 : g ≠ g9 := (ne_of (Blk.lt hB) (Nat.le_trans (size_only O24) hg13))
   have B29 := (Blk.st (Blk.k (Blk.k B5 o8) o11) s16 ne28)
   have r30 := (ow_only (ow_k (ow_k r6 o8) o11) s16 (fun k hk => lt_F (oneF_ge hg13) (size_only O24) k (ownF_lt rO k hk)))
   refine ⟨_, ST.make (S := S) (J := J) B29 r30 ho26 (fun k hk => Nat.lt_of_lt_of_le (hlt k hk) (size_only O27)) hap eL T25 s1 s2 (fun k hk hF => ((.inl hF) : F.m k ∨ w.heap.size ≤ k).elim (s3 k hk) (fun h2 => absurd (hlt k hk) (Nat.not_lt.2 h2))), ?_, ?_, ?_⟩
   · exact (Only.trans (Only.trans (Only.trans (Only.trans (Only.refl _ w) o4 (fun _ h => h.elim)) o8 (fun _ h => h.elim)) o11 (fun _ h => h.elim)) s16 (fun k h => .inr (Nat.le_trans (size_only O24) ((oneF_ge hg13) k h))))
   · intro k hk; rcases hk with (hk | hk) | hk
     · exact .inl (.inl (.inl hk))
     · exact .inl (.inl (.inr hk))
     · exact ((.inl hk) : F.m k ∨ w.heap.size ≤ k).imp .inr id
   · intro k hk; rcases hk with hk | hk
     · exact .inl (.inl hk)
     · exact ((.inl hk) : F.r k ∨ w.heap.size ≤ k).imp .inr id
  ·
   have p31 := of_decide_eq_true (nt_f hc20)
   exact absurd (of_decide_eq_true (nt_f hc20)) hz
 ·
  obtain ⟨g32, w33, hw, hA, hg36, hl37, o34, B35⟩ := newBlk (w := w3) (e := 51) (cs := [.int .i64 (0), .int .i64 (0), .int .i64 (0), .slice none (0) 0, strV ([])])
  refine Pl.MD (r_al (v := .agg #[.int .i64 (0), .int .i64 (0), .int .i64 (0), .slice none (0) 0, strV ([])]) Tryz.zeroValue51 rfl) Z rfl rfl ?_ ?_
  · rw [← hw]; exact ⟨fun _ => o34, (Only.trans (Only.refl NoF w3) o34 (fun _ h => h.elim))⟩
  rw [← hw, ← hA]; clear Z az; intro az Z
  clear hw hA
  have r38 := (ow_k (ow_k rO o4) o34)
  have O39 : Only NoF w w33 := (Only.trans' o4 o34)
  refine Pl.MSV (v := .tuple #[.agg #[.int .i64 (0), .int .i64 (0), .int .i64 (0), .slice none (0) 0, strV ([])], .int .i64 ((check (J.l.map decN ++ [newN h J.l d q t])))]) Z rfl rfl rfl Tryz.call37 (sNext_n (notes_of r38 (OkNs.k hok O39)) (SliceOf.kp f2 O39 (fun _ _ h => h) (fun _ _ _ _ h => h)) hh hd ht (by omega) (by omega) eL hz) rfl (fun w' o' => ⟨fun _ => (Only.trans' o34 o'), (Only.trans (Only.trans (Only.refl NoF w3) o34 (fun _ h => h.elim)) o' (fun _ h => h.elim))⟩) fun w40 o41 => ?_; clear Z az; intro az Z
  refine Pl.MSP (b := true) (by kernel_rfl) (fun W oW => r_mv Z rfl) Z rfl rfl ?_; clear Z az; intro az Z
  refine Pl.MSP (b := true) (by kernel_rfl) (fun W oW => r_ex Z rfl rfl) Z rfl rfl ?_; clear Z az; intro az Z
  refine Pl.MSP (b := false) (by kernel_rfl) (fun W oW => r_ex Z rfl rfl) Z rfl rfl ?_; clear Z az; intro az Z
  have B42 := (Blk.k B35 o41)
  refine Pl.MSS (cs' := [.int .i64 (0), .int .i64 (0), .int .i64 (0), .slice none (0) 0, strV ([])]) Tryz.sizeOf51 Z rfl rfl rfl rfl rfl rfl ⟨rfl, rfl, rfl, rfl, rfl, trivial⟩ B42 rfl rfl fun w43 s44 B45 => ?_
  refine ⟨⟨fun h => absurd h (by decide), (Only.trans (Only.trans (Only.trans (Only.refl NoF w3) o34 (fun _ h => h.elim)) o41 (fun _ h => h.elim)) s44 (fun k h => .inr (Nat.le_trans (Nat.le_refl _) ((oneF_ge hg36) k h))))⟩, ?_⟩
  refine Pl.MSP (b := false) (by kernel_rfl) (fun W oW => r_as Z rfl) Z rfl rfl ?_; clear Z az; intro az Z
  refine wpPl_nil ?_
  refine k2 _ _ (wp_seq_k fun _ k46 => ?_)
  refine wp_seq_k fun _ k47 => wp_region_lit ?_
  refine L (r_mv Z rfl) Z rfl ?_; clear Z az; intro az Z
  refine L (r_neI Z rfl rfl) Z rfl ?_; clear Z az; intro az Z
  refine k47 _ _ ?_
  refine br Z rfl (fun hc48 => ?_) (fun hc48 => ?_)
  ·
   have p49 := of_decide_eq_false (nt_t hc48)
   refine wp_seq_k fun _ k50 => wp_region_lit ?_
   refine L (r_mv Z rfl) Z rfl ?_; clear Z az; intro az Z
   refine L (r_as Z rfl) Z rfl ?_; clear Z az; intro az Z
   refine k50 _ _ ?_
   refine wp_ret ?_
   show bodyPost _ _ _ .ret _ _
   refine ret_of (vs := [.int .i64 ((check (J.l.map decN ++ [newN h J.l d q t])))]) Z Tryz.results18 ⟨rfl, trivial⟩ ?_
   rw [writeS_n hz]; refine ⟨rfl, ?_⟩
   have O51 : Only NoF w w40 := (Only.trans' O39 o41)
   have T52 : (JT b jg D J) w43 F := ((jt_good b jg D J).only ((jt_good b jg D J).only hj O51 (fun _ _ h => h)) s44 (fun k hk (e : k = g32) => (fun h => absurd ((jt_good b jg D J).lt hj _ h) (Nat.not_lt.2 (Nat.le_trans (size_only o4) hg36))) (by rw [← e]; exact hk)))
   have ho53 := OkNs.only (F := (fun k => (k = g ∨ ownF (.slice A Ls.length c) k) ∨ F.m k)) hok (Only.trans (Only.trans (Only.trans (Only.trans (Only.refl _ w) o4 (fun _ h => h.elim)) o34 (fun _ h => h.elim)) o41 (fun _ h => h.elim)) s44 (fun k h => .inr (Nat.le_trans (size_only o4) ((oneF_ge hg36) k h)))) (fun k hk hP => hP.elim (hap k hk) (s3 k hk))
   have O54 : Only NoF w w43 := (o_sg O51 s44 (size_only o4) (oneF_ge hg36))
   have ne55 : g ≠ g32 := (ne_of (Blk.lt hB) (Nat.le_trans (size_only o4) hg36))
   have B56 := (Blk.st (Blk.k (Blk.k B5 o34) o41) s44 ne55)
   have r57 := (ow_only (ow_k r38 o41) s44 (fun k hk => lt_F (oneF_ge hg36) (size_only o4) k (ownF_lt rO k hk)))
   refine ⟨_, ST.make (S := S) (J := J) B56 r57 ho53 (fun k hk => Nat.lt_of_lt_of_le (hlt k hk) (size_only O54)) hap eL T52 s1 s2 (fun k hk hF => ((.inl hF) : F.m k ∨ w.heap.size ≤ k).elim (s3 k hk) (fun h2 => absurd (hlt k hk) (Nat.not_lt.2 h2))), ?_, ?_, ?_⟩
   · exact (Only.trans (Only.trans (Only.trans (Only.trans (Only.refl _ w) o4 (fun _ h => h.elim)) o34 (fun _ h => h.elim)) o41 (fun _ h => h.elim)) s44 (fun k h => .inr (Nat.le_trans (size_only o4) ((oneF_ge hg36) k h))))
   · intro k hk; rcases hk with (hk | hk) | hk
     · exact .inl (.inl (.inl hk))
     · exact .inl (.inl (.inr hk))
     · exact ((.inl hk) : F.m k ∨ w.heap.size ≤ k).imp .inr id
   · intro k hk; rcases hk with hk | hk
     · exact .inl (.inl hk)
     · exact ((.inl hk) : F.r k ∨ w.heap.size ≤ k).imp .inr id
  ·
   have p58 := of_decide_eq_true (nt_f hc48)
   exact absurd (of_decide_eq_true (nt_f hc48)) hz
theorem sWrite_y_ {w : World} (hG : Gr w) {b g jg : Nat} {D : Dsk} {h : Int} {J : Jn} {Ls : List NM} {A : Option Addr} {c : Nat} {F : Foot} {S : Nat → Prop} (hB : Blk w g 74 (stoCells h jg A Ls.length c)) (rO : w.ownsRow 0 51 5 (.slice A Ls.length c) Ls.length (Ls.flatMap KN0.cells)) (hok : OkNs S w Ls) (hlt : ∀ k, S k → k < w.heap.size) (hap : ∀ k, S k → ¬ (k = g ∨ ownF (.slice A Ls.length c) k)) (eL : Ls.map ns = J.l.map decN) (hj : JT b jg D J w F) (s1 : ¬ F.all g) (s2 : ∀ k, ownF (.slice A Ls.length c) k → ¬ F.all k) (s3 : ∀ k, S k → ¬ F.m k) (h6 : ∀ k, (fun k => (k = g ∨ ownF (.slice A Ls.length c) k) ∨ F.m k) k → 6 ≤ k) (hsi : SI h J) {d : Int} {q : List RM} {t : Str} {A2 : Option Addr} {c2 : Nat} (f2 : RefsV w (.slice A2 q.length c2) q) (hh : I64 h) (hd : I64 d) (ht : t.length ≤ maxLen) (hq : q.length ≤ 1000) (hq2 : ∀ r ∈ q, I64 r.h ∧ I64 r.n) (hz : check (J.l.map decN ++ [newN h J.l d q t]) = 0) : Calls Tryz.prog 18 [.pointer (some ⟨g, 0, none⟩), .int .i64 d, .slice A2 q.length c2, strV t].toArray w (TurnTo (.int .i64 (J.writeS D h d q t).2.2) (ST b g jg (J.writeS D h d q t).1 h (J.writeS D h d q t).2.1) w (⟨fun k => (k = g ∨ ownF (.slice A Ls.length c) k) ∨ F.m k, fun k => S k ∨ F.r k⟩ : Foot)) := by
 have hna : ∀ (l : List NM), ∀ z ∈ l, KN0.ok z := fun _ _ _ => trivial
 have hsl := si_len hsi
 have hLl : Ls.length = J.l.length := by have := congrArg List.length eL; rwa [List.length_map, List.length_map] at this
 have hF0 : ∀ k, F.all k → k < w.heap.size := fun k hk => (jt_good b jg D J).lt hj k hk
 have hrl : ∀ k, ownF (.slice A Ls.length c) k → k < w.heap.size := fun k hk => ownF_lt rO k hk
 refine calls_start Tryz.func18 rfl rfl ?_
 intro az Z
 rw [Tryz.ntmps18] at Z
 refine wp_seq_k fun _ k1 => wp_region_lit ?_
 refine L (r_as Z rfl) Z rfl ?_; clear Z az; intro az Z
 refine k1 _ _ ?_
 refine wp_join (fun az W => ∃ mj : NM, ∃ g9 : Nat, Fr 56 [(0, .pointer (some ((⟨g, 0, none⟩ : Addr)))), (9, .pointer (some ((⟨g9, 0, none⟩ : Addr)))), (10, .int .i64 (0))] az ∧ (ns mj = newN h J.l d q t) ∧ (w.heap.size ≤ g9) ∧ Only NoF w W ∧ Blk W g9 51 [.int .i64 (mj.h), .int .i64 (mj.n), .int .i64 (mj.d), .slice mj.A (mj.l.length) mj.c, strV (mj.s)].toArray ∧ okN (geB w.heap.size) W mj) ?_ ?_
 ·
  refine reg_p NoF 2 [11, 15, 16] (.rd 0 (.rd 1 (.rd 2 (.rd 3 (.rd 4 (.rd 5 (.rd 6 (.rd 7 (.rd 8 (.rd 9 (.rd 10 (.fork 11 (.rd 12 (.rd 13 (.rd 14 (.ex 15 (.ex 16 (.rd 17 .nil)))))) 15 (.ex 11 (.rd 12 (.rd 13 (.rd 14 (.ex 16 (.rd 17 .nil)))))))))))))))))) (by kernel_rfl) (by kernel_rfl) (fun _ _ _ _ _ h => h) fun w2 o3 => ?_
  have B4 := (Blk.k hB o3)
  refine Pl.MSP (b := true) (by kernel_rfl) (fun W oW => r_mv Z rfl) Z rfl rfl ?_; clear Z az; intro az Z
  refine Pl.MSP (b := true) (by kernel_rfl) (fun W oW => r_nilP Z rfl) Z rfl rfl ?_; clear Z az; intro az Z
  refine Pl.MSP (b := true) (by kernel_rfl) (fun W oW => r_fa (m' := 2) Tryz.underlying74 rfl Tryz.sizeOf44 rfl Z rfl rfl) Z rfl rfl ?_; clear Z az; intro az Z
  refine Pl.MSP (b := true) (by kernel_rfl) (fun W oW => r_ld Tryz.isAgg44 Z rfl ((Blk.ca (Blk.k B4 oW)) 2 _ rfl)) Z rfl rfl ?_; clear Z az; intro az Z
  refine Pl.MSP (b := true) (by kernel_rfl) (fun W oW => r_mv Z rfl) Z rfl rfl ?_; clear Z az; intro az Z
  refine Pl.MSP (b := true) (by kernel_rfl) (fun W oW => r_nilP Z rfl) Z rfl rfl ?_; clear Z az; intro az Z
  refine Pl.MSP (b := true) (by kernel_rfl) (fun W oW => r_fa (m' := 0) Tryz.underlying74 rfl Tryz.sizeOf3 rfl Z rfl rfl) Z rfl rfl ?_; clear Z az; intro az Z
  refine Pl.MSP (b := true) (by kernel_rfl) (fun W oW => r_ld Tryz.isAgg3 Z rfl ((Blk.ca (Blk.k B4 oW)) 0 _ rfl)) Z rfl rfl ?_; clear Z az; intro az Z
  refine Pl.MSP (b := true) (by kernel_rfl) (fun W oW => r_mv Z rfl) Z rfl rfl ?_; clear Z az; intro az Z
  refine Pl.MSP (b := true) (by kernel_rfl) (fun W oW => r_mv Z rfl) Z rfl rfl ?_; clear Z az; intro az Z
  refine Pl.MSP (b := true) (by kernel_rfl) (fun W oW => r_mv Z rfl) Z rfl rfl ?_; clear Z az; intro az Z
  refine wpPl_fork ?_ ?_
  ·
   have r10 := (ow_k rO o3)
   refine Pl.MSC Z rfl rfl rfl Tryz.call37 (sNext_y (notes_of r10 (OkNs.k hok o3)) (SliceOf.kp f2 o3 (fun _ _ h => h) (fun _ _ _ _ h => h)) hh hd ht (by omega) (by omega) eL hz) rfl ?_
   rintro e w5 ⟨m7, hm8, rfl, o6, ok9⟩
   refine ⟨_, rfl, ⟨fun _ => o6, (Only.trans (Only.refl NoF w2) o6 (fun _ h => h.elim))⟩, ?_⟩
   clear Z az; intro az Z
   refine Pl.MSP (b := true) (by kernel_rfl) (fun W oW => r_mv Z rfl) Z rfl rfl ?_; clear Z az; intro az Z
   refine Pl.MSP (b := true) (by kernel_rfl) (fun W oW => r_ex Z rfl rfl) Z rfl rfl ?_; clear Z az; intro az Z
   refine Pl.MSP (b := false) (by kernel_rfl) (fun W oW => r_ex Z rfl rfl) Z rfl rfl ?_; clear Z az; intro az Z
   obtain ⟨g11, w12, hw, hA, hg15, hl16, o13, B14⟩ := newBlk (w := w5) (e := 51) (cs := [.int .i64 (0), .int .i64 (0), .int .i64 (0), .slice none (0) 0, strV ([])])
   refine Pl.MD (r_al (v := .agg #[.int .i64 (0), .int .i64 (0), .int .i64 (0), .slice none (0) 0, strV ([])]) Tryz.zeroValue51 rfl) Z rfl rfl ?_ ?_
   · rw [← hw]; exact ⟨fun _ => (Only.trans' o6 o13), (Only.trans (Only.trans (Only.refl NoF w2) o6 (fun _ h => h.elim)) o13 (fun _ h => h.elim))⟩
   rw [← hw, ← hA]; clear Z az; intro az Z
   clear hw hA
   refine Pl.MSS (cs' := [.int .i64 (m7.h), .int .i64 (m7.n), .int .i64 (m7.d), .slice m7.A (m7.l.length) m7.c, strV (m7.s)]) Tryz.sizeOf51 Z rfl rfl rfl rfl rfl rfl ⟨rfl, rfl, rfl, rfl, rfl, trivial⟩ B14 rfl rfl fun w17 s18 B19 => ?_
   refine ⟨⟨fun h => absurd h (by decide), (Only.trans (Only.trans (Only.trans (Only.refl NoF w2) o6 (fun _ h => h.elim)) o13 (fun _ h => h.elim)) s18 (fun k h => .inr (Nat.le_trans (size_only o6) ((oneF_ge hg15) k h))))⟩, ?_⟩
   refine Pl.MSP (b := false) (by kernel_rfl) (fun W oW => r_as Z rfl) Z rfl rfl ?_; clear Z az; intro az Z
   refine wpPl_nil ?_
   have O20 : Only NoF w w5 := (Only.trans' o3 o6)
   have O21 : Only NoF w w17 := (o_sg (Only.trans' O20 o13) s18 (size_only O20) (oneF_ge hg15))
   exact ⟨m7, g11, Z.cut ⟨rfl, rfl, rfl, trivial⟩, hm8, (Nat.le_trans (size_only O20) hg15), O21, B19, (okN.sup (okN.only (okN.lt2 ok9) (Only.trans (Only.trans (Only.refl (fun k => k < w2.heap.size) w5) o13 (fun _ h => h.elim)) s18 (fun k h => .inr (Nat.le_trans (Nat.le_refl _) ((oneF_ge hg15) k h)))) (fun k hk => Nat.not_lt.2 hk.1)) fun k hk => Nat.le_trans (size_only o3) hk.1)⟩
  ·
   obtain ⟨g22, w23, hw, hA, hg26, hl27, o24, B25⟩ := newBlk (w := w2) (e := 51) (cs := [.int .i64 (0), .int .i64 (0), .int .i64 (0), .slice none (0) 0, strV ([])])
   refine Pl.MD (r_al (v := .agg #[.int .i64 (0), .int .i64 (0), .int .i64 (0), .slice none (0) 0, strV ([])]) Tryz.zeroValue51 rfl) Z rfl rfl ?_ ?_
   · rw [← hw]; exact ⟨fun _ => o24, (Only.trans (Only.refl NoF w2) o24 (fun _ h => h.elim))⟩
   rw [← hw, ← hA]; clear Z az; intro az Z
   clear hw hA
   have r33 := (ow_k (ow_k rO o3) o24)
   have O34 : Only NoF w w23 := (Only.trans' o3 o24)
   refine Pl.MSC Z rfl rfl rfl Tryz.call37 (sNext_y (notes_of r33 (OkNs.k hok O34)) (SliceOf.kp f2 O34 (fun _ _ h => h) (fun _ _ _ _ h => h)) hh hd ht (by omega) (by omega) eL hz) rfl ?_
   rintro e w28 ⟨m30, hm31, rfl, o29, ok32⟩
   refine ⟨_, rfl, ⟨fun _ => (Only.trans' o24 o29), (Only.trans (Only.trans (Only.refl NoF w2) o24 (fun _ h => h.elim)) o29 (fun _ h => h.elim))⟩, ?_⟩
   clear Z az; intro az Z
   refine Pl.MSP (b := true) (by kernel_rfl) (fun W oW => r_mv Z rfl) Z rfl rfl ?_; clear Z az; intro az Z
   refine Pl.MSP (b := true) (by kernel_rfl) (fun W oW => r_ex Z rfl rfl) Z rfl rfl ?_; clear Z az; intro az Z
   refine Pl.MSP (b := false) (by kernel_rfl) (fun W oW => r_ex Z rfl rfl) Z rfl rfl ?_; clear Z az; intro az Z
   have B35 := (Blk.k B25 o29)
   refine Pl.MSS (cs' := [.int .i64 (m30.h), .int .i64 (m30.n), .int .i64 (m30.d), .slice m30.A (m30.l.length) m30.c, strV (m30.s)]) Tryz.sizeOf51 Z rfl rfl rfl rfl rfl rfl ⟨rfl, rfl, rfl, rfl, rfl, trivial⟩ B35 rfl rfl fun w36 s37 B38 => ?_
   refine ⟨⟨fun h => absurd h (by decide), (Only.trans (Only.trans (Only.trans (Only.refl NoF w2) o24 (fun _ h => h.elim)) o29 (fun _ h => h.elim)) s37 (fun k h => .inr (Nat.le_trans (Nat.le_refl _) ((oneF_ge hg26) k h))))⟩, ?_⟩
   refine Pl.MSP (b := false) (by kernel_rfl) (fun W oW => r_as Z rfl) Z rfl rfl ?_; clear Z az; intro az Z
   refine wpPl_nil ?_
   have O39 : Only NoF w w36 := (o_sg (Only.trans' O34 o29) s37 (size_only o3) (oneF_ge hg26))
   exact ⟨m30, g22, Z.cut ⟨rfl, rfl, rfl, trivial⟩, hm31, (Nat.le_trans (size_only o3) hg26), O39, B38, (okN.sup (okN.only (okN.lt2 ok32) (Only.trans (Only.refl (fun k => k < w23.heap.size) w28) s37 (fun k h => .inl (by rw [show k = g22 from h]; exact Nat.lt_of_lt_of_le hl27 (Nat.le_refl _)))) (fun k hk => Nat.not_lt.2 hk.1)) fun k hk => Nat.le_trans (size_only O34) hk.1)⟩
 clear Z az
 rintro az w40 ⟨mj, g9, Z, hmj, hg9, o41, B42, okj⟩
 refine wp_seq_k fun _ k43 => ?_
 refine wp_seq_k fun _ k44 => wp_region_lit ?_
 refine L (r_mv Z rfl) Z rfl ?_; clear Z az; intro az Z
 refine L (r_neRI Z rfl rfl) Z rfl ?_; clear Z az; intro az Z
 refine k44 _ _ ?_
 refine br_false Z rfl ?_
 refine wp_skip ?_
 refine k43 _ _ (wp_seq_k fun _ k45 => wp_region_lit ?_)
 refine L (r_ldA Tryz.isAgg51 Tryz.sizeOf51 Z rfl (Blk.ca B42) rfl) Z rfl ?_; clear Z az; intro az Z
 have G46 := Gr.only hG (F := (fun k => (k = g ∨ ownF (.slice A Ls.length c) k) ∨ F.m k)) (Only.trans (Only.refl _ w) o41 (fun _ h => h.elim)) h6
 refine LCV (v := .tuple #[strV ((encN (newN h J.l d q t))), .bool (true)]) Z rfl rfl Tryz.call38 (sEnc_y G46 hmj (new_right hz).1 (okN.only (okN.lt2 okj) (Only.refl (fun k => k < w.heap.size) w40) (fun k hk => Nat.not_lt.2 hk.1))) rfl fun w47 o48 => ?_; clear Z az; intro az Z
 refine L (r_mv Z rfl) Z rfl ?_; clear Z az; intro az Z
 refine L (r_ex Z rfl rfl) Z rfl ?_; clear Z az; intro az Z
 refine L (r_ex Z rfl rfl) Z rfl ?_; clear Z az; intro az Z
 refine L (r_as Z rfl) Z rfl ?_; clear Z az; intro az Z
 refine L (r_as Z rfl) Z rfl ?_; clear Z az; intro az Z
 refine k45 _ _ (wp_seq_k fun _ k49 => ?_)
 refine wp_seq_k fun _ k50 => wp_region_lit ?_
 refine L (r_mv Z rfl) Z rfl ?_; clear Z az; intro az Z
 refine L (r_nilP Z rfl) Z rfl ?_; clear Z az; intro az Z
 refine L (r_fa (m' := 1) Tryz.underlying74 rfl Tryz.sizeOf63 rfl Z rfl rfl) Z rfl ?_; clear Z az; intro az Z
 have B51 := (Blk.k (Blk.k hB o41) o48)
 refine L (r_ld Tryz.isAgg63 Z rfl ((Blk.ca B51) 1 _ rfl)) Z rfl ?_; clear Z az; intro az Z
 refine L (r_mv Z rfl) Z rfl ?_; clear Z az; intro az Z
 have G52 := Gr.only hG (F := (fun k => (k = g ∨ ownF (.slice A Ls.length c) k) ∨ F.m k)) (Only.trans (Only.trans (Only.refl _ w) o41 (fun _ h => h.elim)) o48 (fun _ h => h.elim)) h6
 have O53 : Only NoF w w47 := (Only.trans' o41 o48)
 have T54 : (JT b jg D J) w47 F := ((jt_good b jg D J).only hj O53 (fun _ _ h => h))
 refine LC Z rfl rfl Tryz.call39 (append_o (t := (encN (newN h J.l d q t))) G52 T54 (fun k hk => h6 k (.inr hk)) (enc_short hq2 (new_right hz).1) (Nat.le_trans hsi.1.2.2 (by decide)) (by omega)) rfl ?_
 rintro e w55 ⟨rfl, F56, h57, o58, fm59, fr60⟩; refine ⟨_, rfl, ?_⟩
 clear Z az; intro az Z
 refine L (r_as Z rfl) Z rfl ?_; clear Z az; intro az Z
 refine k50 _ _ (wp_seq_k fun _ k61 => wp_region_lit ?_)
 refine L (r_mv Z rfl) Z rfl ?_; clear Z az; intro az Z
 refine L (r_neI Z rfl rfl) Z rfl ?_; clear Z az; intro az Z
 refine k61 _ _ ?_
 refine br Z rfl (fun hc62 => ?_) (fun hc62 => ?_)
 ·
  have p63 := of_decide_eq_false (nt_t hc62)
  refine wp_seq_k fun _ k64 => wp_region_lit ?_
  refine L (r_mv Z rfl) Z rfl ?_; clear Z az; intro az Z
  refine L (r_as Z rfl) Z rfl ?_; clear Z az; intro az Z
  refine k64 _ _ ?_
  refine wp_ret ?_
  show bodyPost _ _ _ .ret _ _
  refine ret_of (vs := [.int .i64 ((Jn.append J D (encN (newN h J.l d q t))).2.2)]) Z Tryz.results18 ⟨rfl, trivial⟩ ?_
  rw [writeS_y hz]; refine ⟨rfl, ?_⟩
  have ho65 := OkNs.only (F := (fun k => (k = g ∨ ownF (.slice A Ls.length c) k) ∨ F.m k)) hok (Only.trans (Only.trans (Only.trans (Only.refl _ w) o41 (fun _ h => h.elim)) o48 (fun _ h => h.elim)) o58 (fun k h => (.inl (.inr h)))) (fun k hk hP => hP.elim (hap k hk) (s3 k hk))
  have O66 := (Only.trans (Only.trans (Only.trans (Only.refl (fun _ => True) w) o41 (fun _ _ => .inl trivial)) o48 (fun _ _ => .inl trivial)) o58 (fun _ _ => .inl trivial))
  have B67 := (Blk.only B51 o58 (fun h => s1 (.inl h)))
  have r68 := (ow_only (ow_k (ow_k rO o41) o48) o58 (fun k hk hF => s2 k hk (.inl hF)))
  have sp69 : ¬ Foot.all F56 g := sep_next s1 (Nat.lt_of_lt_of_le (Blk.lt hB) (size_only O53)) fm59 fr60
  have sp70 : ∀ k, ownF (.slice A (Ls.length) c) k → ¬ Foot.all F56 k := sep_nexto s2 (fun k hk => Nat.lt_of_lt_of_le (ownF_lt rO k hk) (size_only O53)) fm59 fr60
  refine ⟨_, ST.make (S := S) (J := (Jn.append J D (encN (newN h J.l d q t))).2.1) B67 r68 ho65 (fun k hk => Nat.lt_of_lt_of_le (hlt k hk) (size_only O66)) hap (eL.trans (by rw [app_ne (of_decide_eq_false (nt_t hc62))])) h57 sp69 sp70 (fun k hk hF => (((fm59 _ hF).elim (fun h => (.inl h)) (fun h => .inr (Nat.le_trans (size_only O53) h))) : F.m k ∨ w.heap.size ≤ k).elim (s3 k hk) (fun h2 => absurd (hlt k hk) (Nat.not_lt.2 h2))), ?_, ?_, ?_⟩
  · exact (Only.trans (Only.trans (Only.trans (Only.refl _ w) o41 (fun _ h => h.elim)) o48 (fun _ h => h.elim)) o58 (fun k h => (.inl (.inr h))))
  · intro k hk; rcases hk with (hk | hk) | hk
    · exact .inl (.inl (.inl hk))
    · exact .inl (.inl (.inr hk))
    · exact (((fm59 _ hk).elim (fun h => (.inl h)) (fun h => .inr (Nat.le_trans (size_only O53) h))) : F.m k ∨ w.heap.size ≤ k).imp .inr id
  · intro k hk; rcases hk with hk | hk
    · exact .inl (.inl hk)
    · exact (((fr60 _ hk).elim (fun h => (.inl h)) (fun h => .inr (Nat.le_trans (size_only O53) h))) : F.r k ∨ w.heap.size ≤ k).imp .inr id
 ·
  have p71 := of_decide_eq_true (nt_f hc62)
  refine wp_skip ?_
  refine k49 _ _ (wp_seq_k fun _ k72 => ?_)
  refine reg_q2 (ownF (.slice A (Ls.length) c)) (orF (ownF (.slice A (Ls.length) c)) (oneF g)) 1 2 [6, 7, 10] (.rd 0 (.rd 1 (.rd 2 (.rd 3 (.rd 4 (.rd 5 (.ex 6 (.ex 7 (.rd 8 (.rd 9 (.ex 10 .nil))))))))))) (by kernel_rfl) (by kernel_rfl) (fun _ _ _ _ _ h => h) fun w73 o74 => ?_
  have B75 := (Blk.k (Blk.only B51 o58 (fun h => s1 (.inl h))) o74)
  have B76 := (Blk.k (Blk.only (Blk.k B42 o48) o58 (fun h => (fun h => absurd ((jt_good b jg D J).lt hj _ h) (Nat.not_lt.2 (Nat.le_trans (Nat.le_refl _) hg9))) (.inl h))) o74)
  refine Pq.MSP (b := 1) (by kernel_rfl) (fun W oW => r_mv Z rfl) Z rfl rfl ?_; clear Z az; intro az Z
  refine Pq.MSP (b := 1) (by kernel_rfl) (fun W oW => r_mv Z rfl) Z rfl rfl ?_; clear Z az; intro az Z
  refine Pq.MSP (b := 1) (by kernel_rfl) (fun W oW => r_nilP Z rfl) Z rfl rfl ?_; clear Z az; intro az Z
  refine Pq.MSP (b := 1) (by kernel_rfl) (fun W oW => r_fa (m' := 2) Tryz.underlying74 rfl Tryz.sizeOf44 rfl Z rfl rfl) Z rfl rfl ?_; clear Z az; intro az Z
  refine Pq.MSP (b := 0) (by kernel_rfl) (fun W oW => r_ld Tryz.isAgg44 Z rfl ((Blk.ca (Blk.k B75 oW)) 2 _ rfl)) Z rfl rfl ?_; clear Z az; intro az Z
  refine Pq.MSP (b := 0) (by kernel_rfl) (fun W oW => r_ldA Tryz.isAgg51 Tryz.sizeOf51 Z rfl (Blk.ca (Blk.k B76 oW)) rfl) Z rfl rfl ?_; clear Z az; intro az Z
  obtain ⟨A77, w78, hw, hA, r79, o80⟩ := Row.made (w := w73) KN0 (e := 51) ([mj] : List NM) (by simp only [List.length_cons, List.length_nil]; unfold maxLen; omega)
  refine Pq.MD (r_bs (z := .agg #[.int .i64 (0), .int .i64 (0), .int .i64 (0), .slice none (0) 0, strV ([])]) (size := 5) (vs := [(0, .agg #[.int .i64 (mj.h), .int .i64 (mj.n), .int .i64 (mj.d), .slice mj.A (mj.l.length) mj.c, strV (mj.s)])]) (cs := List.flatMap KN0.cells [mj]) Tryz.underlying44 Tryz.sizeOf51 Tryz.zeroValue51 rfl (Fr.evalps Z rfl) (by kernel_rfl)) Z rfl rfl ?_ ?_
  · rw [← hw]; exact ⟨(fun _ => o80), (fun _ => (Only.trans (Only.refl (ownF (.slice A (Ls.length) c)) w73) o80 (fun _ h => h.elim))), (Only.trans (Only.refl (orF (ownF (.slice A (Ls.length) c)) (oneF g)) w73) o80 (fun _ h => h.elim))⟩
  rw [← hw, ← hA]; clear Z az; intro az Z
  clear hw hA
  have ok81 : ∀ zq ∈ ([mj] : List NM), KN0.ok zq := by intro zq hx; simp only [List.mem_cons, List.not_mem_nil, or_false] at hx; rcases hx with rfl <;> first | exact trivial
  have r82 := (ow_k (ow_k (ow_only (ow_k (ow_k rO o41) o48) o58 (fun k hk hF => s2 k hk (.inl hF))) o74) o80)
  have h83 := SliceOf.pl (Row.own KN0 r79 ok81)
  have hb91 : (List.length (Ls) + List.length ([mj])) * 64 ≤ 140737488355328 := by (simp only [List.length_append, List.length_cons, List.length_nil]; omega)
  obtain ⟨A84, c85, w86, hr87, r88, o89, al90⟩ := Row.app (P := Tryz.prog) (l := Ls) (l2 := [mj]) KN0 elemNote r82 h83 hb91 (by unfold maxLen; omega) (Nat.zero_le _)
  refine Pq.MD (r_app hr87 Z rfl rfl) Z rfl rfl ?_ ?_
  · exact ⟨(fun h => absurd h (by decide)), (fun _ => (Only.trans (Only.trans (Only.refl (ownF (.slice A (Ls.length) c)) w73) o80 (fun _ h => h.elim)) o89 (fun _ h => .inl h))), (Only.trans (Only.trans (Only.refl (orF (ownF (.slice A (Ls.length) c)) (oneF g)) w73) o80 (fun _ h => h.elim)) o89 (fun _ h => .inl (.inl h)))⟩
  clear Z az; intro az Z
  have ok92 : ∀ zq ∈ (Ls ++ [mj]), KN0.ok zq := (fun x hx => (List.mem_append.1 hx).elim ((hna _) x) ((Row.oks KN0 h83) x))
  have h93 := Row.own KN0 r88 ok92
  refine Pq.MSP (b := 2) (by kernel_rfl) (fun W oW => r_nilP Z rfl) Z rfl rfl ?_; clear Z az; intro az Z
  refine Pq.MSP (b := 1) (by kernel_rfl) (fun W oW => r_fa (m' := 2) Tryz.underlying74 rfl Tryz.sizeOf44 rfl Z rfl rfl) Z rfl rfl ?_; clear Z az; intro az Z
  have B94 := (Blk.only (Blk.k B75 o80) o89 (ow_nb r82 (Blk.k B75 o80) (by decide)))
  refine Pq.MSS (cs' := [.int .i64 (h), .pointer (some ⟨jg, 0, none⟩), .slice A84 (((Ls ++ [mj])).length) c85]) Tryz.sizeOf44 Z rfl rfl rfl rfl rfl rfl ⟨rfl, trivial⟩ B94 rfl rfl fun w95 s96 B97 => ?_
  refine ⟨⟨(fun h => absurd h (by decide)), (fun h => absurd h (by decide)), (Only.trans (Only.trans (Only.trans (Only.refl (orF (ownF (.slice A (Ls.length) c)) (oneF g)) w73) o80 (fun _ h => h.elim)) o89 (fun _ h => .inl (.inl h))) s96 (fun _ h => .inl (.inr h)))⟩, ?_⟩
  refine wpPl_nil ?_
  refine k72 _ _ (wp_seq_k fun _ k98 => wp_region_lit ?_)
  refine L (r_as Z rfl) Z rfl ?_; clear Z az; intro az Z
  refine k98 _ _ ?_
  refine wp_ret ?_
  show bodyPost _ _ _ .ret _ _
  refine ret_of (vs := [.int .i64 (0)]) Z Tryz.results18 ⟨rfl, trivial⟩ ?_
  rw [writeS_y hz]; refine ⟨by rw [of_decide_eq_true (nt_f hc62)]; rfl, ?_⟩
  have O99 : Only NoF w55 w78 := (Only.trans' o74 o80)
  have sp100 : ∀ k, ownF (.slice A (Ls.length) c) k → ¬ Foot.all F56 k := sep_nexto s2 (fun k hk => Nat.lt_of_lt_of_le (ownF_lt rO k hk) (size_only O53)) fm59 fr60
  have sp101 : ¬ Foot.all F56 g := sep_next s1 (Nat.lt_of_lt_of_le (Blk.lt hB) (size_only O53)) fm59 fr60
  have T102 : (JT b jg (Jn.append J D (encN (newN h J.l d q t))).1 (Jn.append J D (encN (newN h J.l d q t))).2.1) w95 F56 := ((jt_good _ _ _ _).only ((jt_good _ _ _ _).only ((jt_good _ _ _ _).only h57 O99 (fun _ _ h => h)) o89 (fun k hk e => sp100 k e hk)) s96 (fun k hk (e : k = g) => sp101 (by rw [← e]; exact hk)))
  have ho103 := OkNs.only (F := (fun k => (k = g ∨ ownF (.slice A Ls.length c) k) ∨ F.m k)) hok (Only.trans (Only.trans (Only.trans (Only.trans (Only.trans (Only.trans (Only.trans (Only.refl _ w) o41 (fun _ h => h.elim)) o48 (fun _ h => h.elim)) o58 (fun k h => (.inl (.inr h)))) o74 (fun _ h => h.elim)) o80 (fun _ h => h.elim)) o89 (fun k h => .inl (.inl (.inr h)))) s96 (fun k h => .inl (.inl (.inl h)))) (fun k hk hP => hP.elim (hap k hk) (s3 k hk))
  have O106 := (Only.trans (Only.trans (Only.trans (Only.trans (Only.refl (fun _ => True) w40) o48 (fun _ _ => .inl trivial)) o58 (fun _ _ => .inl trivial)) o74 (fun _ _ => .inl trivial)) o80 (fun _ _ => .inl trivial))
  have hgl : g < w.heap.size := Blk.lt hB
  have hn104 := (okN.only (okN.lt2 okj) (Only.trans (Only.trans (Only.trans (Only.trans (Only.trans (Only.trans (Only.refl (fun k => k < w.heap.size) w40) o48 (fun _ h => h.elim)) o58 (fun k h => (.inl (Nat.lt_of_lt_of_le (hF0 _ (.inl h)) (Nat.le_refl _))))) o74 (fun _ h => h.elim)) o80 (fun _ h => h.elim)) o89 (fun k h => .inl (Nat.lt_of_lt_of_le (hrl k h) (Nat.le_refl _)))) s96 (fun k h => .inl (by rw [show k = g from h]; exact Nat.lt_of_lt_of_le (Blk.lt hB) (Nat.le_refl _)))) (fun k hk => Nat.not_lt.2 hk.1))
  have ho105 : OkNs (fun k => S k ∨ (w.heap.size ≤ k ∧ k < w40.heap.size)) w95 _ := OkNs.app (OkNs.sup ho103 fun k hk => .inl hk) (okN.sup hn104 fun k hk => .inr hk)
  have hsz1 : w.heap.size ≤ w.heap.size := (Nat.le_refl _)
  have hsz2 : w40.heap.size ≤ w78.heap.size := (size_only O106)
  have O107 := (Only.trans (Only.trans (Only.trans (Only.trans (Only.trans (Only.trans (Only.refl (fun _ => True) w40) o48 (fun _ _ => .inl trivial)) o58 (fun _ _ => .inl trivial)) o74 (fun _ _ => .inl trivial)) o80 (fun _ _ => .inl trivial)) o89 (fun _ _ => .inl trivial)) s96 (fun _ _ => .inl trivial))
  have hsz3 : w40.heap.size ≤ w95.heap.size := (size_only O107)
  have hsz4 : w.heap.size ≤ w40.heap.size := (size_only o41)
  have hsz5 : w40.heap.size ≤ w47.heap.size := (size_only o48)
  have hap108 : ∀ k, (fun k => S k ∨ (w.heap.size ≤ k ∧ k < w40.heap.size)) k → ¬ (k = g ∨ ownF (.slice A84 (((Ls ++ [mj])).length) c85) k) := by
   intro k hk hP
   rcases hk with hk | hk
   · have h0 := hlt k hk
     rcases hP with hP | hP
     · exact hap k hk (.inl hP)
     · rcases own_alt al90 hP with hP | hP
       · exact hap k hk (.inr hP)
       · omega
   · have h0 := hk.1
     have h9 := hk.2
     rcases hP with hP | hP
     · omega
     · rcases own_alt al90 hP with hP | hP
       · have := hrl k hP; omega
       · omega
  have hfm : ∀ k, F56.m k → F.m k ∨ w47.heap.size ≤ k := fun k hk => fm59 k hk
  have hs109 : ∀ k, (fun k => S k ∨ (w.heap.size ≤ k ∧ k < w40.heap.size)) k → ¬ F56.m k := by
   intro k hk hF
   rcases hfm k hF with hF | hF
   · rcases hk with hk | hk
     · exact s3 k hk hF
     · have := hF0 k (.inl hF); have := hk.1; omega
   · rcases hk with hk | hk
     · have := hlt k hk; omega
     · have := hk.2; omega
  have hl110 : ∀ k, (fun k => S k ∨ (w.heap.size ≤ k ∧ k < w40.heap.size)) k → k < w95.heap.size := by
   intro k hk
   rcases hk with hk | hk
   · have := hlt k hk; omega
   · have := hk.2; omega
  have r111 := (ow_only r88 s96 (fun k hk hF => ow_nb r88 B94 (by decide) (by rw [show k = g from hF] at hk; exact hk)))
  have sp112 : ∀ k, ownF (.slice A84 (((Ls ++ [mj])).length) c85) k → ¬ Foot.all F56 k := sep_app al90 sp100 (fun k h => Nat.lt_of_lt_of_le ((jt_good _ _ _ _).lt h57 _ h) (size_only O99))
  have O113 := (Only.trans (Only.trans (Only.trans (Only.trans (Only.trans (Only.refl (fun _ => True) w) o41 (fun _ _ => .inl trivial)) o48 (fun _ _ => .inl trivial)) o58 (fun _ _ => .inl trivial)) o74 (fun _ _ => .inl trivial)) o80 (fun _ _ => .inl trivial))
  refine ⟨_, ST.make (S := (fun k => S k ∨ (w.heap.size ≤ k ∧ k < w40.heap.size))) (J := (Jn.append J D (encN (newN h J.l d q t))).2.1) B97 r111 ho105 hl110 hap108 (wrote_map hq2 hz hmj eL (of_decide_eq_true (nt_f hc62))) T102 sp101 sp112 hs109, ?_, ?_, ?_⟩
  · exact (Only.trans (Only.trans (Only.trans (Only.trans (Only.trans (Only.trans (Only.trans (Only.refl _ w) o41 (fun _ h => h.elim)) o48 (fun _ h => h.elim)) o58 (fun k h => (.inl (.inr h)))) o74 (fun _ h => h.elim)) o80 (fun _ h => h.elim)) o89 (fun k h => .inl (.inl (.inr h)))) s96 (fun k h => .inl (.inl (.inl h))))
  · intro k hk; rcases hk with (hk | hk) | hk
    · exact .inl (.inl (.inl hk))
    · exact (own_alt al90 hk).elim (fun hk => .inl (.inl (.inr hk))) (fun hk => .inr (by rw [hk]; exact (size_only O113)))
    · exact (((fm59 _ hk).elim (fun h => (.inl h)) (fun h => .inr (Nat.le_trans (size_only O53) h))) : F.m k ∨ w.heap.size ≤ k).imp .inr id
  · intro k hk; rcases hk with hk | hk
    · exact hk.elim (fun h => .inl (.inl h)) (fun h => .inr (Nat.le_trans hsz1 h.1))
    · exact (((fr60 _ hk).elim (fun h => (.inl h)) (fun h => .inr (Nat.le_trans (size_only O53) h))) : F.r k ∨ w.heap.size ≤ k).imp .inr id
theorem sTell_v_ {w : World} (hG : Gr w) {b g jg : Nat} {D : Dsk} {h : Int} {J : Jn} {Ls : List NM} {A : Option Addr} {c : Nat} {F : Foot} {S : Nat → Prop} (hB : Blk w g 74 (stoCells h jg A Ls.length c)) (rO : w.ownsRow 0 51 5 (.slice A Ls.length c) Ls.length (Ls.flatMap KN0.cells)) (hok : OkNs S w Ls) (hlt : ∀ k, S k → k < w.heap.size) (hap : ∀ k, S k → ¬ (k = g ∨ ownF (.slice A Ls.length c) k)) (eL : Ls.map ns = J.l.map decN) (hj : JT b jg D J w F) (s1 : ¬ F.all g) (s2 : ∀ k, ownF (.slice A Ls.length c) k → ¬ F.all k) (s3 : ∀ k, S k → ¬ F.m k) (h6 : ∀ k, (fun k => (k = g ∨ ownF (.slice A Ls.length c) k) ∨ F.m k) k → 6 ≤ k) (hsi : SI h J) : Calls Tryz.prog 20 [.pointer (some ⟨g, 0, none⟩)].toArray w (TellTo (J.l.map decN) (Jn.sync J D).2.2 (ST b g jg (Jn.sync J D).1 h (Jn.sync J D).2.1) w (⟨fun k => (k = g ∨ ownF (.slice A Ls.length c) k) ∨ F.m k, fun k => S k ∨ F.r k⟩ : Foot)) := by
 have hna : ∀ (l : List NM), ∀ z ∈ l, KN0.ok z := fun _ _ _ => trivial
 have hsl := si_len hsi
 have hLl : Ls.length = J.l.length := by have := congrArg List.length eL; rwa [List.length_map, List.length_map] at this
 have hF0 : ∀ k, F.all k → k < w.heap.size := fun k hk => (jt_good b jg D J).lt hj k hk
 have hrl : ∀ k, ownF (.slice A Ls.length c) k → k < w.heap.size := fun k hk => ownF_lt rO k hk
 refine calls_start Tryz.func20 rfl rfl ?_
 intro az Z
 rw [Tryz.ntmps20] at Z
 refine wp_seq_k fun _ k1 => wp_region_lit ?_
 refine L (r_as Z rfl) Z rfl ?_; clear Z az; intro az Z
 refine L (r_as Z rfl) Z rfl ?_; clear Z az; intro az Z
 refine k1 _ _ (wp_seq_k fun _ k2 => ?_)
 refine wp_seq_k fun _ k3 => wp_region_lit ?_
 refine L (r_mv Z rfl) Z rfl ?_; clear Z az; intro az Z
 refine L (r_nilP Z rfl) Z rfl ?_; clear Z az; intro az Z
 refine L (r_fa (m' := 1) Tryz.underlying74 rfl Tryz.sizeOf63 rfl Z rfl rfl) Z rfl ?_; clear Z az; intro az Z
 refine L (r_ld Tryz.isAgg63 Z rfl ((Blk.ca hB) 1 _ rfl)) Z rfl ?_; clear Z az; intro az Z
 refine LC Z rfl rfl Tryz.call43 (sync_o hG hj (fun k hk => h6 k (.inr hk))) rfl ?_
 rintro e w4 ⟨rfl, F5, h6, o7, fm8, fr9⟩; refine ⟨_, rfl, ?_⟩
 clear Z az; intro az Z
 refine L (r_as Z rfl) Z rfl ?_; clear Z az; intro az Z
 refine k3 _ _ (wp_seq_k fun _ k10 => wp_region_lit ?_)
 refine L (r_mv Z rfl) Z rfl ?_; clear Z az; intro az Z
 refine L (r_neI Z rfl rfl) Z rfl ?_; clear Z az; intro az Z
 refine k10 _ _ ?_
 refine br Z rfl (fun hc11 => ?_) (fun hc11 => ?_)
 ·
  have p12 := of_decide_eq_false (nt_t hc11)
  refine wp_seq_k fun _ k13 => wp_region_lit ?_
  refine L (r_mv Z rfl) Z rfl ?_; clear Z az; intro az Z
  refine L (r_as Z rfl) Z rfl ?_; clear Z az; intro az Z
  refine L (r_as Z rfl) Z rfl ?_; clear Z az; intro az Z
  refine k13 _ _ ?_
  refine wp_ret ?_
  show bodyPost _ _ _ .ret _ _
  refine ret_of (vs := [.slice none (0) 0, .int .i64 ((Jn.sync J D).2.2)]) Z Tryz.results20 ⟨rfl, rfl, trivial⟩ ?_
  have hT : ThingTo (ST b g jg (Jn.sync J D).1 h (Jn.sync J D).2.1) w (⟨fun k => (k = g ∨ ownF (.slice A Ls.length c) k) ∨ F.m k, fun k => S k ∨ F.r k⟩ : Foot) w4 := by
   have ho14 := OkNs.only (F := (fun k => (k = g ∨ ownF (.slice A Ls.length c) k) ∨ F.m k)) hok (Only.trans (Only.refl _ w) o7 (fun k h => (.inl (.inr h)))) (fun k hk hP => hP.elim (hap k hk) (s3 k hk))
   have O15 := (Only.trans (Only.refl (fun _ => True) w) o7 (fun _ _ => .inl trivial))
   have B16 := (Blk.only hB o7 (fun h => s1 (.inl h)))
   have r17 := (ow_only rO o7 (fun k hk hF => s2 k hk (.inl hF)))
   have sp18 : ¬ Foot.all F5 g := sep_next s1 (Nat.lt_of_lt_of_le (Blk.lt hB) (Nat.le_refl _)) fm8 fr9
   have sp19 : ∀ k, ownF (.slice A (Ls.length) c) k → ¬ Foot.all F5 k := sep_nexto s2 (fun k hk => Nat.lt_of_lt_of_le (ownF_lt rO k hk) (Nat.le_refl _)) fm8 fr9
   refine ⟨_, ST.make (S := S) (J := (Jn.sync J D).2.1) B16 r17 ho14 (fun k hk => Nat.lt_of_lt_of_le (hlt k hk) (size_only O15)) hap (eL.trans (by rw [sync_l])) h6 sp18 sp19 (fun k hk hF => (((fm8 _ hF).elim (fun h => (.inl h)) (fun h => .inr (Nat.le_trans (Nat.le_refl _) h))) : F.m k ∨ w.heap.size ≤ k).elim (s3 k hk) (fun h2 => absurd (hlt k hk) (Nat.not_lt.2 h2))), ?_, ?_, ?_⟩
   · exact (Only.trans (Only.refl _ w) o7 (fun k h => (.inl (.inr h))))
   · intro k hk; rcases hk with (hk | hk) | hk
     · exact .inl (.inl (.inl hk))
     · exact .inl (.inl (.inr hk))
     · exact (((fm8 _ hk).elim (fun h => (.inl h)) (fun h => .inr (Nat.le_trans (Nat.le_refl _) h))) : F.m k ∨ w.heap.size ≤ k).imp .inr id
   · intro k hk; rcases hk with hk | hk
     · exact .inl (.inl hk)
     · exact (((fr9 _ hk).elim (fun h => (.inl h)) (fun h => .inr (Nat.le_trans (Nat.le_refl _) h))) : F.r k ∨ w.heap.size ≤ k).imp .inr id
  exact ⟨_, none, 0, [], hT, rfl, by rw [if_neg (of_decide_eq_false (nt_t hc11))]; rfl, World.ownsRow_nil _ _ _ _, OkNs.nil, Only.refl _ _⟩
 ·
  have p20 := of_decide_eq_true (nt_f hc11)
  refine wp_skip ?_
  refine k2 _ _ (wp_seq_k fun _ k21 => wp_region_lit ?_)
  refine L (r_mv Z rfl) Z rfl ?_; clear Z az; intro az Z
  have hT : ThingTo (ST b g jg (Jn.sync J D).1 h (Jn.sync J D).2.1) w (⟨fun k => (k = g ∨ ownF (.slice A Ls.length c) k) ∨ F.m k, fun k => S k ∨ F.r k⟩ : Foot) w4 := by
   have ho22 := OkNs.only (F := (fun k => (k = g ∨ ownF (.slice A Ls.length c) k) ∨ F.m k)) hok (Only.trans (Only.refl _ w) o7 (fun k h => (.inl (.inr h)))) (fun k hk hP => hP.elim (hap k hk) (s3 k hk))
   have O23 := (Only.trans (Only.refl (fun _ => True) w) o7 (fun _ _ => .inl trivial))
   have B24 := (Blk.only hB o7 (fun h => s1 (.inl h)))
   have r25 := (ow_only rO o7 (fun k hk hF => s2 k hk (.inl hF)))
   have sp26 : ¬ Foot.all F5 g := sep_next s1 (Nat.lt_of_lt_of_le (Blk.lt hB) (Nat.le_refl _)) fm8 fr9
   have sp27 : ∀ k, ownF (.slice A (Ls.length) c) k → ¬ Foot.all F5 k := sep_nexto s2 (fun k hk => Nat.lt_of_lt_of_le (ownF_lt rO k hk) (Nat.le_refl _)) fm8 fr9
   refine ⟨_, ST.make (S := S) (J := (Jn.sync J D).2.1) B24 r25 ho22 (fun k hk => Nat.lt_of_lt_of_le (hlt k hk) (size_only O23)) hap (eL.trans (by rw [sync_l])) h6 sp26 sp27 (fun k hk hF => (((fm8 _ hF).elim (fun h => (.inl h)) (fun h => .inr (Nat.le_trans (Nat.le_refl _) h))) : F.m k ∨ w.heap.size ≤ k).elim (s3 k hk) (fun h2 => absurd (hlt k hk) (Nat.not_lt.2 h2))), ?_, ?_, ?_⟩
   · exact (Only.trans (Only.refl _ w) o7 (fun k h => (.inl (.inr h))))
   · intro k hk; rcases hk with (hk | hk) | hk
     · exact .inl (.inl (.inl hk))
     · exact .inl (.inl (.inr hk))
     · exact (((fm8 _ hk).elim (fun h => (.inl h)) (fun h => .inr (Nat.le_trans (Nat.le_refl _) h))) : F.m k ∨ w.heap.size ≤ k).imp .inr id
   · intro k hk; rcases hk with hk | hk
     · exact .inl (.inl hk)
     · exact (((fr9 _ hk).elim (fun h => (.inl h)) (fun h => .inr (Nat.le_trans (Nat.le_refl _) h))) : F.r k ∨ w.heap.size ≤ k).imp .inr id
  have r36 := (ow_only rO o7 (fun k hk hF => s2 k hk (.inl hF)))
  have B37 := (Blk.only hB o7 (fun h => s1 (.inl h)))
  refine LC Z rfl rfl Tryz.call23 (sAll_v_ B37 (notes_of r36 (OkNs.only (F := (fun k => (k = g ∨ ownF (.slice A Ls.length c) k) ∨ F.m k)) hok (Only.trans (Only.refl _ w) o7 (fun k h => (.inl (.inr h)))) (fun k hk hP => hP.elim (hap k hk) (s3 k hk)))) (by omega) (need_len hsi eL)) rfl ?_
  rintro e w28 ⟨A30, c31, L32, rfl, hL33, r34, hN35, o29⟩; refine ⟨_, rfl, ?_⟩
  clear Z az; intro az Z
  refine L (r_as Z rfl) Z rfl ?_; clear Z az; intro az Z
  refine L (r_as Z rfl) Z rfl ?_; clear Z az; intro az Z
  refine k21 _ _ ?_
  refine wp_ret ?_
  show bodyPost _ _ _ .ret _ _
  refine ret_of (vs := [.slice A30 (L32.length) c31, .int .i64 (0)]) Z Tryz.results20 ⟨rfl, rfl, trivial⟩ ?_
  have hz38 := of_decide_eq_true (nt_f hc11)
  exact ⟨_, A30, c31, L32, hT, by rw [hz38]; rfl, by rw [if_pos hz38]; exact hL33.trans eL, r34, hN35, o29⟩
theorem sOpen_v_ {w : World} (hG : Gr w) {b : Nat} {D : Dsk} {F : Foot} (hd : DiskT b D w F) (h6 : ∀ k, F.m k → 6 ≤ k) {h : Int} : Calls Tryz.prog 8 [.pointer (some ⟨b, 0, none⟩), .int .i64 h].toArray w (OpenSTo b (openS D h) h w F) := by
 refine calls_start Tryz.func8 rfl rfl ?_
 intro az Z
 rw [Tryz.ntmps8] at Z
 refine wp_seq_k fun _ k1 => wp_region_lit ?_
 refine LBox Z rfl rfl rfl ?_
 clear Z az; intro g2 w3 hg6 hl7 o4 B5 az Z
 refine L (r_as Z rfl) Z rfl ?_; clear Z az; intro az Z
 refine L (r_as Z rfl) Z rfl ?_; clear Z az; intro az Z
 refine k1 _ _ (wp_seq_k fun _ k8 => ?_)
 refine wp_seq_k fun _ k9 => wp_region_lit ?_
 refine L (r_ld Tryz.isAgg3 Z rfl (CA.first (Blk.ca B5))) Z rfl ?_; clear Z az; intro az Z
 refine L (r_ltI Z rfl rfl) Z rfl ?_; clear Z az; intro az Z
 refine L (r_mv Z rfl) Z rfl ?_; clear Z az; intro az Z
 refine LG Z rfl rfl gd_f (fun hb => r_ld Tryz.isAgg3 Z rfl (CA.first (Blk.ca B5))) rfl ?_; clear Z az; intro az Z
 refine LG Z rfl rfl gd_f (fun hb => r_geI Z (evg hb rfl) rfl) rfl ?_; clear Z az; intro az Z
 refine L (r_or Z rfl rfl rfl) Z rfl ?_; clear Z az; intro az Z
 refine k9 _ _ ?_
 refine br Z rfl (fun hc10 => ?_) (fun hc10 => ?_)
 ·
  have d11 := hc10
  refine wp_seq_k fun _ k12 => wp_region_lit ?_
  refine L (r_as Z rfl) Z rfl ?_; clear Z az; intro az Z
  refine L (r_as Z rfl) Z rfl ?_; clear Z az; intro az Z
  refine k12 _ _ ?_
  refine wp_ret ?_
  show bodyPost _ _ _ .ret _ _
  refine ret_of (vs := [.pointer none, .int .i64 (1)]) Z Tryz.results8 ⟨rfl, rfl, trivial⟩ ?_
  have T13 : (DiskT b D) w3 F := ((diskT_good b D).only hd o4 (fun _ _ h => h))
  rw [openS_arg (by simpa using hc10)]; exact .inl ⟨rfl, rfl, ⟨_, T13, (Only.trans (Only.refl _ w) o4 (fun _ h => h.elim)), (fun k hk => (.inl hk)), (fun k hk => (.inl hk))⟩⟩
 ·
  have p14 := of_decide_eq_false (or_f hc10).1
  have p15 := of_decide_eq_false (or_f hc10).2
  refine wp_skip ?_
  refine k8 _ _ (wp_seq_k fun _ k16 => wp_region_lit ?_)
  refine L (r_mv Z rfl) Z rfl ?_; clear Z az; intro az Z
  have G20 := Gr.only hG (F := F.m) (Only.trans (Only.refl _ w) o4 (fun _ h => h.elim)) h6
  have T21 : (DiskT b D) w3 F := ((diskT_good b D).only hd o4 (fun _ _ h => h))
  refine LC Z rfl rfl Tryz.call25 (open_s G20 T21 h6) rfl ?_
  rintro e w18 ⟨v17, rfl, H19⟩; refine ⟨_, rfl, ?_⟩
  clear Z az; intro az Z
  rcases H19 with ⟨hn27, rfl, F22, h23, o24, fm25, fr26⟩ | ⟨J28, jg29, hs30, rfl, F22, h23, o24, fm25, fr26⟩
  ·
   refine L (r_mv Z rfl) Z rfl ?_; clear Z az; intro az Z
   refine L (r_ex Z rfl rfl) Z rfl ?_; clear Z az; intro az Z
   refine L (r_ex Z rfl rfl) Z rfl ?_; clear Z az; intro az Z
   refine L (r_as Z rfl) Z rfl ?_; clear Z az; intro az Z
   refine L (r_as Z rfl) Z rfl ?_; clear Z az; intro az Z
   refine k16 _ _ (wp_seq_k fun _ k31 => ?_)
   refine wp_seq_k fun _ k32 => wp_region_lit ?_
   refine L (r_mv Z rfl) Z rfl ?_; clear Z az; intro az Z
   refine L (r_neI Z rfl rfl) Z rfl ?_; clear Z az; intro az Z
   refine k32 _ _ ?_
   refine br Z rfl (fun hc33 => ?_) (fun hc33 => ?_)
   ·
    have p34 := of_decide_eq_false (nt_t hc33)
    refine wp_seq_k fun _ k35 => wp_region_lit ?_
    refine L (r_mv Z rfl) Z rfl ?_; clear Z az; intro az Z
    refine L (r_as Z rfl) Z rfl ?_; clear Z az; intro az Z
    refine L (r_as Z rfl) Z rfl ?_; clear Z az; intro az Z
    refine k35 _ _ ?_
    refine wp_ret ?_
    show bodyPost _ _ _ .ret _ _
    refine ret_of (vs := [.pointer none, .int .i64 ((openJ D 0).2.1)]) Z Tryz.results8 ⟨rfl, rfl, trivial⟩ ?_
    have ha36 : ¬ (h < 0 ∨ 400 ≤ h) := by simpa using hc10
    rw [openS_none ha36 hn27]; exact .inl ⟨rfl, rfl, ⟨_, h23, (Only.trans (Only.trans (Only.refl _ w) o4 (fun _ h => h.elim)) o24 (fun k h => (.inl h))), (fun k hk => ((fm25 _ hk).elim (fun h => (.inl h)) (fun h => .inr (Nat.le_trans (size_only o4) h)))), (fun k hk => ((fr26 _ hk).elim (fun h => (.inl h)) (fun h => .inr (Nat.le_trans (size_only o4) h))))⟩⟩
   ·
    have p37 := of_decide_eq_true (nt_f hc33)
    exact absurd (of_decide_eq_true (nt_f hc33)) (openJ_none hn27)
  ·
   rw [openJ_some hs30] at Z
   have hji38 := ji_open (IsDisk.ok hd) hs30
   refine L (r_mv Z rfl) Z rfl ?_; clear Z az; intro az Z
   refine L (r_ex Z rfl rfl) Z rfl ?_; clear Z az; intro az Z
   refine L (r_ex Z rfl rfl) Z rfl ?_; clear Z az; intro az Z
   refine L (r_as Z rfl) Z rfl ?_; clear Z az; intro az Z
   refine L (r_as Z rfl) Z rfl ?_; clear Z az; intro az Z
   refine k16 _ _ (wp_seq_k fun _ k39 => ?_)
   refine wp_seq_k fun _ k40 => wp_region_lit ?_
   refine L (r_mv Z rfl) Z rfl ?_; clear Z az; intro az Z
   refine L (r_neRI Z rfl rfl) Z rfl ?_; clear Z az; intro az Z
   refine k40 _ _ ?_
   refine br_false Z rfl ?_
   refine wp_skip ?_
   refine k39 _ _ (wp_seq_k fun _ k41 => wp_region_lit ?_)
   refine L (r_mv Z rfl) Z rfl ?_; clear Z az; intro az Z
   have okl47 := okB (BothT.l (X := JB b jg29 J28) h23)
   refine LC Z rfl rfl Tryz.call27 (all_b (BothT.l (X := JB b jg29 J28) h23) (Nat.le_trans (JI.ll hji38) (by decide))) rfl ?_
   rintro e w42 ⟨A43, c44, rfl, r45, o46⟩; refine ⟨_, rfl, ?_⟩
   clear Z az; intro az Z
   have h56 := SliceOf.pl (Row.own KStr r45 okl47)
   have G57 := Gr.only hG (F := F.m) (Only.trans (Only.trans (Only.trans (Only.refl _ w) o4 (fun _ h => h.elim)) o24 (fun k h => (.inl h))) o46 (fun _ h => h.elim)) h6
   refine LC Z rfl rfl Tryz.call26 (sRead_v G57 h56 hji38.2.1 (Nat.le_trans (JI.ll hji38) (by decide))) rfl ?_
   rintro e w48 ⟨A49, c50, L51, rfl, r52, hN53, hL54, o55⟩; refine ⟨_, rfl, ?_⟩
   clear Z az; intro az Z
   rcases tf (List.all J28.l decOk) with hsp58 | hsp58
   ·
    rw [hsp58] at Z
    refine L (r_mv Z rfl) Z rfl ?_; clear Z az; intro az Z
    refine L (r_ex Z rfl rfl) Z rfl ?_; clear Z az; intro az Z
    refine L (r_ex Z rfl rfl) Z rfl ?_; clear Z az; intro az Z
    refine L (r_as Z rfl) Z rfl ?_; clear Z az; intro az Z
    refine L (r_as Z rfl) Z rfl ?_; clear Z az; intro az Z
    refine k41 _ _ (wp_seq_k fun _ k59 => wp_region_lit ?_)
    refine L (r_mfc Z rfl) Z rfl ?_; clear Z az; intro az Z
    refine L (r_as Z rfl) Z rfl ?_; clear Z az; intro az Z
    refine k59 _ _ (wp_seq_k fun _ k60 => ?_)
    refine wp_seq_k fun _ k61 => wp_region_lit ?_
    refine L (r_mv Z rfl) Z rfl ?_; clear Z az; intro az Z
    refine L (r_not Z rfl) Z rfl ?_; clear Z az; intro az Z
    refine L (r_mv Z rfl) Z rfl ?_; clear Z az; intro az Z
    refine LF Z rfl rfl rfl rfl ?_; clear Z az; intro az Z
    refine LF Z rfl rfl rfl rfl ?_; clear Z az; intro az Z
    refine LF Z rfl rfl rfl rfl ?_; clear Z az; intro az Z
    refine L (r_pick Z rfl rfl rfl) Z rfl ?_; clear Z az; intro az Z
    refine L (r_mv Z rfl) Z rfl ?_; clear Z az; intro az Z
    refine LF Z rfl rfl rfl rfl ?_; clear Z az; intro az Z
    refine LF Z rfl rfl rfl rfl ?_; clear Z az; intro az Z
    refine LF Z rfl rfl rfl rfl ?_; clear Z az; intro az Z
    refine L (r_pick Z rfl rfl rfl) Z rfl ?_; clear Z az; intro az Z
    refine k61 _ _ ?_
    refine br_true Z rfl ?_
    refine wp_seq_k fun _ k63 => wp_region_lit ?_
    refine L (r_as Z rfl) Z rfl ?_; clear Z az; intro az Z
    refine L (r_as Z rfl) Z rfl ?_; clear Z az; intro az Z
    refine k63 _ _ ?_
    refine wp_ret ?_
    show bodyPost _ _ _ .ret _ _
    refine ret_of (vs := [.pointer none, .int .i64 (2)]) Z Tryz.results8 ⟨rfl, rfl, trivial⟩ ?_
    have O64 : Only NoF w18 w48 := (Only.trans' o46 o55)
    have T65 : (JT b jg29 (openJ D 0).1 J28) w48 F22 := ((jt_good _ _ _ _).only h23 O64 (fun _ _ h => h))
    have ha66 : ¬ (h < 0 ∨ 400 ≤ h) := by simpa using hc10
    have hb67 : goodL h J28.l = false := good_no1 hsp58
    obtain ⟨F68, h69, fm70, fr71⟩ := JT.disk T65
    rw [openS_bad ha66 hs30 hb67]; exact .inl ⟨rfl, rfl, F68, h69, (Only.trans (Only.trans (Only.trans (Only.trans (Only.refl _ w) o4 (fun _ h => h.elim)) o24 (fun k h => (.inl h))) o46 (fun _ h => h.elim)) o55 (fun _ h => h.elim)), (fun k hk => (fun hk => ((fm25 _ hk).elim (fun h => (.inl h)) (fun h => .inr (Nat.le_trans (size_only o4) h)))) (fm70 k hk)), (fun k hk => (fun hk => ((fr26 _ hk).elim (fun h => (.inl h)) (fun h => .inr (Nat.le_trans (size_only o4) h)))) (fr71 k hk))⟩
   ·
    rw [hsp58] at Z
    refine L (r_mv Z rfl) Z rfl ?_; clear Z az; intro az Z
    refine L (r_ex Z rfl rfl) Z rfl ?_; clear Z az; intro az Z
    refine L (r_ex Z rfl rfl) Z rfl ?_; clear Z az; intro az Z
    refine L (r_as Z rfl) Z rfl ?_; clear Z az; intro az Z
    refine L (r_as Z rfl) Z rfl ?_; clear Z az; intro az Z
    refine k41 _ _ (wp_seq_k fun _ k72 => wp_region_lit ?_)
    refine L (r_mfc Z rfl) Z rfl ?_; clear Z az; intro az Z
    refine L (r_as Z rfl) Z rfl ?_; clear Z az; intro az Z
    refine k72 _ _ (wp_seq_k fun _ k73 => ?_)
    refine wp_seq_k fun _ k74 => wp_region_lit ?_
    refine L (r_mv Z rfl) Z rfl ?_; clear Z az; intro az Z
    refine L (r_not Z rfl) Z rfl ?_; clear Z az; intro az Z
    refine L (r_mv Z rfl) Z rfl ?_; clear Z az; intro az Z
    refine LT Z rfl rfl (r_mv Z rfl) rfl ?_; clear Z az; intro az Z
    refine LGV (v := .int .i64 (check L51)) Z rfl rfl gd_f rfl (fun hb => rfl) Tryz.call29 (fun hb => Check_v (notes_of r52 (OkNs.k hN53 (Only.refl NoF w48)))) rfl fun w75 o76 => ?_; clear Z az; intro az Z
    refine LT Z rfl rfl (r_neI Z rfl rfl) rfl ?_; clear Z az; intro az Z
    rcases tf (decide (check L51 = 0)) with hsp77 | hsp77
    ·
     rw [hsp77, Bool.not_false] at Z
     refine L (r_pick Z rfl rfl rfl) Z rfl ?_; clear Z az; intro az Z
     refine L (r_mv Z rfl) Z rfl ?_; clear Z az; intro az Z
     refine LF Z rfl rfl rfl rfl ?_; clear Z az; intro az Z
     refine LF Z rfl rfl rfl rfl ?_; clear Z az; intro az Z
     refine LF Z rfl rfl rfl rfl ?_; clear Z az; intro az Z
     refine L (r_pick Z rfl rfl rfl) Z rfl ?_; clear Z az; intro az Z
     refine k74 _ _ ?_
     refine br_true Z rfl ?_
     refine wp_seq_k fun _ k78 => wp_region_lit ?_
     refine L (r_as Z rfl) Z rfl ?_; clear Z az; intro az Z
     refine L (r_as Z rfl) Z rfl ?_; clear Z az; intro az Z
     refine k78 _ _ ?_
     refine wp_ret ?_
     show bodyPost _ _ _ .ret _ _
     refine ret_of (vs := [.pointer none, .int .i64 (2)]) Z Tryz.results8 ⟨rfl, rfl, trivial⟩ ?_
     have O79 : Only NoF w18 w75 := (Only.trans' (Only.trans' o46 o55) o76)
     have T80 : (JT b jg29 (openJ D 0).1 J28) w75 F22 := ((jt_good _ _ _ _).only h23 O79 (fun _ _ h => h))
     have ha81 : ¬ (h < 0 ∨ 400 ≤ h) := by simpa using hc10
     have hb82 : goodL h J28.l = false := good_no2 (hL54 hsp58) hsp77
     obtain ⟨F83, h84, fm85, fr86⟩ := JT.disk T80
     rw [openS_bad ha81 hs30 hb82]; exact .inl ⟨rfl, rfl, F83, h84, (Only.trans (Only.trans (Only.trans (Only.trans (Only.trans (Only.refl _ w) o4 (fun _ h => h.elim)) o24 (fun k h => (.inl h))) o46 (fun _ h => h.elim)) o55 (fun _ h => h.elim)) o76 (fun _ h => h.elim)), (fun k hk => (fun hk => ((fm25 _ hk).elim (fun h => (.inl h)) (fun h => .inr (Nat.le_trans (size_only o4) h)))) (fm85 k hk)), (fun k hk => (fun hk => ((fr26 _ hk).elim (fun h => (.inl h)) (fun h => .inr (Nat.le_trans (size_only o4) h)))) (fr86 k hk))⟩
    ·
     rw [hsp77, Bool.not_true] at Z
     refine L (r_pick Z rfl rfl rfl) Z rfl ?_; clear Z az; intro az Z
     refine L (r_mv Z rfl) Z rfl ?_; clear Z az; intro az Z
     refine LT Z rfl rfl (r_mv Z rfl) rfl ?_; clear Z az; intro az Z
     refine LT Z rfl rfl (r_mv Z rfl) rfl ?_; clear Z az; intro az Z
     have B87 := (Blk.k (Blk.k (Blk.k (Blk.only B5 o24 (fun h => (fun h => absurd ((diskT_good b D).lt hd _ h) (Nat.not_lt.2 (Nat.le_trans (Nat.le_refl _) hg6))) (.inl h))) o46) o55) o76)
     have r88 := (ow_k r52 o76)
     refine LGV (v := .bool ((L51.any fun m => !decide (m.h = h)))) Z rfl rfl gd_f rfl (fun hb => rfl) Tryz.call30 (fun hb => containsN_v_ (h := h) B87 (notes_of r88 (OkNs.k hN53 o76))) rfl fun w89 o90 => ?_; clear Z az; intro az Z
     refine L (r_pick Z rfl rfl rfl) Z rfl ?_; clear Z az; intro az Z
     refine k74 _ _ ?_
     refine br Z rfl (fun hc91 => ?_) (fun hc91 => ?_)
     ·
      have q92 : (L51.any fun m => !decide (m.h = h)) = true := hc91
      refine wp_seq_k fun _ k93 => wp_region_lit ?_
      refine L (r_as Z rfl) Z rfl ?_; clear Z az; intro az Z
      refine L (r_as Z rfl) Z rfl ?_; clear Z az; intro az Z
      refine k93 _ _ ?_
      refine wp_ret ?_
      show bodyPost _ _ _ .ret _ _
      refine ret_of (vs := [.pointer none, .int .i64 (2)]) Z Tryz.results8 ⟨rfl, rfl, trivial⟩ ?_
      have O94 : Only NoF w18 w89 := (Only.trans' (Only.trans' (Only.trans' o46 o55) o76) o90)
      have T95 : (JT b jg29 (openJ D 0).1 J28) w89 F22 := ((jt_good _ _ _ _).only h23 O94 (fun _ _ h => h))
      have ha96 : ¬ (h < 0 ∨ 400 ≤ h) := by simpa using hc10
      have hb97 : goodL h J28.l = false := good_no3 (hL54 hsp58) hc91
      obtain ⟨F98, h99, fm100, fr101⟩ := JT.disk T95
      rw [openS_bad ha96 hs30 hb97]; exact .inl ⟨rfl, rfl, F98, h99, (Only.trans (Only.trans (Only.trans (Only.trans (Only.trans (Only.trans (Only.refl _ w) o4 (fun _ h => h.elim)) o24 (fun k h => (.inl h))) o46 (fun _ h => h.elim)) o55 (fun _ h => h.elim)) o76 (fun _ h => h.elim)) o90 (fun _ h => h.elim)), (fun k hk => (fun hk => ((fm25 _ hk).elim (fun h => (.inl h)) (fun h => .inr (Nat.le_trans (size_only o4) h)))) (fm100 k hk)), (fun k hk => (fun hk => ((fr26 _ hk).elim (fun h => (.inl h)) (fun h => .inr (Nat.le_trans (size_only o4) h)))) (fr101 k hk))⟩
     ·
      have q102 : (L51.any fun m => !decide (m.h = h)) = false := hc91
      refine wp_skip ?_
      refine k73 _ _ (wp_seq_k fun _ k103 => wp_region_lit ?_)
      have B104 := (Blk.k B87 o90)
      refine L (r_ld Tryz.isAgg3 Z rfl (CA.first (Blk.ca B104))) Z rfl ?_; clear Z az; intro az Z
      refine L (r_mv Z rfl) Z rfl ?_; clear Z az; intro az Z
      refine L (r_mv Z rfl) Z rfl ?_; clear Z az; intro az Z
      refine L (r_bd (v := .agg #[.int .i64 (h), .pointer (some ⟨jg29, 0, none⟩), .slice A49 (L51.length) c50]) (build_Sto _ _ _ _ _) Z rfl) Z rfl ?_; clear Z az; intro az Z
      refine LBox Z rfl rfl rfl ?_
      clear Z az; intro g105 w106 hg109 hl110 o107 B108 az Z
      refine L (r_as Z rfl) Z rfl ?_; clear Z az; intro az Z
      refine L (r_as Z rfl) Z rfl ?_; clear Z az; intro az Z
      refine k103 _ _ ?_
      refine wp_ret ?_
      show bodyPost _ _ _ .ret _ _
      refine ret_of (vs := [.pointer (some ((⟨g105, 0, none⟩ : Addr))), .int .i64 (0)]) Z Tryz.results8 ⟨rfl, rfl, trivial⟩ ?_
      have O111 : Only NoF w18 w106 := (Only.trans' (Only.trans' (Only.trans' (Only.trans' o46 o55) o76) o90) o107)
      have T112 : (JT b jg29 (openJ D 0).1 J28) w106 F22 := ((jt_good _ _ _ _).only h23 O111 (fun _ _ h => h))
      have ha113 : ¬ (h < 0 ∨ 400 ≤ h) := by simpa using hc10
      have hb114 : goodL h J28.l = true := good_yes hsp58 (hL54 hsp58) hsp77 hc91
      have O116 : Only NoF w48 w106 := (Only.trans' (Only.trans' o76 o90) o107)
      have ho115 : OkNs (fun k => w42.heap.size ≤ k ∧ k < w48.heap.size ∧ ¬ ownF (.slice A49 (L51.length) c50) k) w106 _ := OkNs.k (OkNs.lt3 hN53) O116
      have O117 : Only NoF w48 w89 := (Only.trans' o76 o90)
      have hsz1 : w48.heap.size ≤ w89.heap.size := (size_only O117)
      have hsz2 : w89.heap.size ≤ g105 := hg109
      have hsz3 : w18.heap.size ≤ w42.heap.size := (size_only o46)
      have O118 := (Only.trans (Only.trans (Only.trans (Only.refl (fun _ => True) w) o4 (fun _ _ => .inl trivial)) o24 (fun _ _ => .inl trivial)) o46 (fun _ _ => .inl trivial))
      have hsz4 : w.heap.size ≤ w42.heap.size := (size_only O118)
      have O119 := (Only.trans (Only.trans (Only.trans (Only.trans (Only.trans (Only.trans (Only.refl (fun _ => True) w) o4 (fun _ _ => .inl trivial)) o24 (fun _ _ => .inl trivial)) o46 (fun _ _ => .inl trivial)) o55 (fun _ _ => .inl trivial)) o76 (fun _ _ => .inl trivial)) o90 (fun _ _ => .inl trivial))
      have hsz5 : w.heap.size ≤ w89.heap.size := (size_only O119)
      have hsz6 : w48.heap.size ≤ w106.heap.size := (size_only O116)
      have r120 := (ow_k (ow_k r88 o90) o107)
      have O121 : Only NoF w18 w89 := (Only.trans' (Only.trans' (Only.trans' o46 o55) o76) o90)
      rw [openS_some ha113 hs30 hb114]
      refine .inr ⟨J28, g105, jg29, rfl, rfl, ?_⟩
      refine ⟨_, ST.make (S := (fun k => w42.heap.size ≤ k ∧ k < w48.heap.size ∧ ¬ ownF (.slice A49 (L51.length) c50) k)) (J := J28) B108 r120 ho115 (fun k hk => by have := hk.2.1; omega) (fun k hk hP => hP.elim (fun e => by have := hk.2.1; omega) hk.2.2) (hL54 hsp58) T112 (fun h => absurd ((jt_good _ _ _ _).lt h23 _ h) (Nat.not_lt.2 (Nat.le_trans (size_only O121) hg109))) (fun k hk h => absurd ((jt_good _ _ _ _).lt h23 _ h) (Nat.not_lt.2 (Nat.le_trans (size_only o46) (ownF_ge r52 k hk)))) (fun k hk hF => by have h1 := (jt_good _ _ _ _).lt h23 k (.inl hF); have := hk.1; omega), ?_, ?_, ?_⟩
      · exact (Only.trans (Only.trans (Only.trans (Only.trans (Only.trans (Only.trans (Only.trans (Only.refl _ w) o4 (fun _ h => h.elim)) o24 (fun k h => (.inl h))) o46 (fun _ h => h.elim)) o55 (fun _ h => h.elim)) o76 (fun _ h => h.elim)) o90 (fun _ h => h.elim)) o107 (fun _ h => h.elim))
      · intro k hk; rcases hk with (hk | hk) | hk
        · exact .inr (by rw [hk]; omega)
        · exact .inr (Nat.le_trans hsz4 (ownF_ge r120 k hk))
        · exact ((fm25 _ hk).elim (fun h => (.inl h)) (fun h => .inr (Nat.le_trans (size_only o4) h)))
      · intro k hk; rcases hk with hk | hk
        · exact .inr (Nat.le_trans hsz4 hk.1)
        · exact ((fr26 _ hk).elim (fun h => (.inl h)) (fun h => .inr (Nat.le_trans (size_only o4) h)))
end
end Go.Proofs.YtdegmpigkgkafaaGreatDoor
