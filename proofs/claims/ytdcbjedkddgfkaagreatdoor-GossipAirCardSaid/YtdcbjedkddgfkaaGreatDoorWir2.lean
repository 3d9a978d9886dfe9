/-
  What the program's steps of a read come to. No condition: plain lemmas.
-/
import Derived.Test.YtdcbjedkddgfkaaGreatDoorWBase
namespace Go.Proofs.YtdcbjedkddgfkaaGreatDoor
set_option linter.unusedVariables false
set_option linter.unusedSimpArgs false
set_option linter.unusedSectionVars false
theorem index_cases (l : Str) (c : UInt8) : (Lib.indexByte l c = -1 ∧ ∀ x ∈ l, x ≠ c) ∨ ∃ k : Nat, Lib.indexByte l c = (k : Int) ∧ k < l.length ∧ l.takeWhile (· != c) = l.take k ∧ (l.takeWhile (· != c)).length = k := by
 induction l with
 | nil => exact .inl ⟨rfl, fun x hx => by cases hx⟩
 | cons b l ih =>
  by_cases hb : b = c
  · refine .inr ⟨0, ?_, by simp, by simp [hb], by simp [hb]⟩
    unfold Lib.indexByte
    rw [if_pos (by simp [hb])]; rfl
  · have hbc : (b == c) = false := by simp [hb]
    have hbn : (b != c) = true := by simp [hb]
    rcases ih with ⟨h, hx⟩ | ⟨k, h, h1, h2, h3⟩
    · refine .inl ⟨?_, ?_⟩
      · unfold Lib.indexByte
        rw [hbc, h]; rfl
      · intro x hx'
        rcases List.mem_cons.1 hx' with rfl | hx'
        · exact hb
        · exact hx x hx'
    · refine .inr ⟨k + 1, ?_, by simpa using h1, by simp [List.takeWhile_cons, hbn, h2], by simp [List.takeWhile_cons, hbn, h3]⟩
      unfold Lib.indexByte
      have hk : ((k : Int) == -1) = false := by
       cases hq : ((k : Int) == -1) with
       | false => rfl
       | true => have := beq_iff_eq.1 hq; omega
      rw [hbc, h, hk]
      simp
theorem index_nat {l : Str} {c : UInt8} (h : ¬ Lib.indexByte l c < 0) : ∃ k : Nat, Lib.indexByte l c = (k : Int) ∧ k < l.length ∧ l.takeWhile (· != c) = l.take k ∧ (l.takeWhile (· != c)).length = k := by
 rcases index_cases l c with ⟨h1, _⟩ | h1
 · omega
 · exact h1
theorem tw_take (p : UInt8 → Bool) : ∀ (l : Str) (q : Nat), ((l.take q).takeWhile p).length < (l.take q).length → (l.take q).takeWhile p = l.takeWhile p
 | [], q, h => by simp at h
 | x :: l, 0, h => by simp at h
 | x :: l, q + 1, h => by
  simp only [List.take_succ_cons, List.takeWhile_cons] at h ⊢
  by_cases hx : p x = true
  · rw [if_pos hx] at h ⊢
    rw [if_pos hx, tw_take p l q (by simpa using h)]
  · rw [if_neg hx, if_neg hx]
namespace Wr
/-- the head holds the end where the whole does, not too far off -/
theorem head_in {s : Str} {e : UInt8} {q : Nat} (hq : q = min s.length 21) (h1 : (head e s).length < s.length) (h2 : (head e s).length ≤ 20) : ¬ Lib.indexByte (s.take q) e < 0 := by
 rcases index_cases (s.take q) e with ⟨_, h⟩ | ⟨k, h, _⟩
 · exfalso
   have := head_split h1
   have hl : (head e s).length < (s.take q).length := by rw [List.length_take]; omega
   have hg : (s.take q)[(head e s).length]? = some e := by
    rw [List.getElem?_take, if_pos (by omega), this, List.getElem?_append_right (by rw [← this]; exact Nat.le_refl _)]
    rw [← this]
    simp
   exact h e (List.mem_of_getElem? hg) rfl
 · omega
theorem number_f1 {s : Rd} {e : UInt8} {least : Int} {q : Nat} (hq : q = min s.r.length 21) (h : Lib.indexByte (s.r.take q) e < 0) : number s e least = (0, failed) := by
 rcases number_cases s e least with ⟨h1, _⟩ | ⟨n, h0, _, h1, h2, _⟩
 · exact h1
 · have hl := itoa_len n h0.1 h0.2
   rw [← h2] at hl
   exact absurd h (head_in hq h1 hl)
theorem head_of {s : Str} {e : UInt8} {q k : Nat} (hk : k < (s.take q).length) (h1 : (s.take q).takeWhile (· != e) = (s.take q).take k) (h2 : ((s.take q).takeWhile (· != e)).length = k) : head e s = (s.take q).take k ∧ (head e s).length = k ∧ k < s.length := by
 have h3 := tw_take (· != e) s q (by rw [h2]; exact hk)
 have hl : (s.take q).length ≤ s.length := by rw [List.length_take]; omega
 unfold head
 exact ⟨h3.symm.trans h1, by rw [← h3]; exact h2, by omega⟩
theorem number_f2 {s : Rd} {e : UInt8} {least n : Int} {q k : Nat} {b : Bool} (hk : k < (s.r.take q).length) (h1 : (s.r.take q).takeWhile (· != e) = (s.r.take q).take k) (h2 : ((s.r.take q).takeWhile (· != e)).length = k)
 (ha : (b = false ∧ Lib.atoiAll ((s.r.take q).take k) = .ok n) ∨ (b = true ∧ ∀ m, Lib.atoiAll ((s.r.take q).take k) ≠ .ok m)) (hc : ((b || (!decide (Lib.itoa n = (s.r.take q).take k))) || decide (n < least)) = true) : number s e least = (0, failed) := by
 obtain ⟨g1, g2, g3⟩ := head_of hk h1 h2
 rcases number_cases s e least with ⟨h, _⟩ | ⟨m, m0, m1, _, m2, _⟩
 · exact h
 · exfalso
   rw [g1] at m2
   have hm := atoi_itoa m m0.1 m0.2
   rw [← m2] at hm
   rcases ha with ⟨rfl, ha⟩ | ⟨rfl, ha⟩
   · rw [hm] at ha
     injection ha with ha
     subst ha
     simp only [Bool.false_or, Bool.or_eq_true, Bool.not_eq_true', decide_eq_false_iff_not, decide_eq_true_eq] at hc
     rcases hc with hc | hc
     · exact hc m2.symm
     · omega
   · exact ha m hm
theorem number_s {s : Rd} {e : UInt8} {least n : Int} {q k : Nat} {b : Bool} (hk : k < (s.r.take q).length) (h1 : (s.r.take q).takeWhile (· != e) = (s.r.take q).take k) (h2 : ((s.r.take q).takeWhile (· != e)).length = k)
 (ha : (b = false ∧ Lib.atoiAll ((s.r.take q).take k) = .ok n) ∨ (b = true ∧ ∀ m, Lib.atoiAll ((s.r.take q).take k) ≠ .ok m)) (hc : ((b || (!decide (Lib.itoa n = (s.r.take q).take k))) || decide (n < least)) = false) : number s e least = (n, ⟨s.r.drop (k + 1), s.b⟩) := by
 obtain ⟨g1, g2, g3⟩ := head_of hk h1 h2
 simp only [Bool.or_eq_false_iff, Bool.not_eq_false', decide_eq_true_eq, decide_eq_false_iff_not] at hc
 obtain ⟨⟨rfl, hi⟩, hl⟩ := hc
 rcases ha with ⟨_, ha⟩ | ⟨h, _⟩
 · rcases number_cases s e least with ⟨_, h⟩ | ⟨m, m0, m1, m3, m2, m4, _⟩
   · exfalso
     refine h n ⟨Lib.atoiAll_bounds ha, by omega, by rw [g1, hi], by omega⟩
   · rw [m4, g2]
     congr 1
     rw [g1] at m2
     exact itoa_inj (m2.symm.trans hi.symm) m0 (Lib.atoiAll_bounds ha)
 · cases h
/-- close, in the words of CutPrefix -/
theorem close_eq (s : Rd) (c : UInt8) : close s c = if Lib.hasPrefix s.r [c] = true then ⟨Lib.trimPrefix s.r [c], s.b⟩ else failed := by
 unfold close Lib.trimPrefix Lib.hasPrefix
 cases s.r with
 | nil => simp
 | cons x r =>
  by_cases h : x = c
  · subst h; simp
  · have h' : ¬ c = x := fun e => h e.symm
    simp [h, h']
end Wr
/-- whether an error is there -/
def isE (v : Value) : Bool := match v with | .nilIface => false | _ => true
theorem r_neE {P : Program} {w : World} {n : Nat} {l : List (Nat × Value)} {a : Act} {dst : Option Tmp} {ty : TypeId} {pos : String} {aft : Array Edge} {g : Option (Nat × Bool)} {x : Operand} {v : Value} {t yt : TypeId} {ms : Array (String × TypeId)} (hu : P.underlying t = some (.interface ms)) (hv : v = .nilIface ∨ ∃ t p, v = .iface t p) (H : Fr n l a) (hx : ev l x = some v) :
 (execOp a.eval ⟨dst, .binOp .neq t x (.const .nilIface) yt, ty, pos, aft, g⟩).run P w = .ok (.value (.bool (isE v))) w := by
 rcases hv with rfl | ⟨t', p, rfl⟩
 · exact r_neNil0 hu H hx
 · exact r_neNil1 hu H hx
/-- Atoi in one form: the number and an error -/
def AtoiV (w : World) (s : Str) (e : Ending) (w' : World) : Prop :=
 ∃ n ev, e = .returned (.tuple #[.int .i64 n, ev]) ∧ (ev = .nilIface ∨ ∃ t p, ev = .iface t p) ∧ ((isE ev = false ∧ Lib.atoiAll s = .ok n) ∨ (isE ev = true ∧ ∀ m, Lib.atoiAll s ≠ .ok m)) ∧ Wr.Ok n ∧ Only NoF w w'
theorem atoi_v2 {w : World} (hG : Gr w) (s : Str) (hs : s.length ≤ 1000000) : Calls Tryz.prog 129 #[strV s] w (AtoiV w s) := by
 refine (atoi_v hG s hs).mono ?_
 rintro e w' ⟨h | h, o⟩
 · obtain ⟨n, h1, rfl⟩ := h
   exact ⟨n, _, rfl, .inl rfl, .inl ⟨rfl, h1⟩, Lib.atoiAll_bounds h1, o⟩
 · obtain ⟨h1, n, t, p, rfl, h2⟩ := h
   exact ⟨n, _, rfl, .inr ⟨t, p, rfl⟩, .inr ⟨rfl, h1⟩, h2, o⟩
/-! ### a reader in memory -/
def RdTo (g : Nat) (v : Value) (s : Wr.Rd) (w : World) (e : Ending) (w' : World) : Prop := e = .returned v ∧ Blk w' g 152 [strV s.r, .bool s.b].toArray ∧ Only (oneF g) w w'
theorem elemInt : ElemIs Tryz.prog 30 3 1 8 := by
 obtain ⟨i, h1, h2, h3, h4⟩ := info_parts (show (Tryz.prog.info? 3).map (fun i => (i.zero, i.size, i.bytes)) = some (some (.int .i64 0), 1, 8) by kernel_rfl)
 exact ⟨Tryz.underlying30, i, _, h1, h2, h3, h4, rfl⟩
end Go.Proofs.YtdcbjedkddgfkaaGreatDoor
