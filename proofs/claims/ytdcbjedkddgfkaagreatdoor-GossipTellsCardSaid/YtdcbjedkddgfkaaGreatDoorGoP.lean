/-
  Gossip as plain Lean: the order of notes, joined lists. No condition.
-/
import Derived.Test.YtdcbjedkddgfkaaGreatDoorSA
import Derived.Test.YtdcbjedkddgfkaaGreatDoorSOrder
import Derived.Lib.Bytealg
namespace Go.Proofs.YtdcbjedkddgfkaaGreatDoor
set_option linter.unusedVariables false
set_option linter.unusedSimpArgs false
set_option linter.unusedSectionVars false
open Go.RowKit
deriving instance DecidableEq for NM
/-- a note without its place -/
def ns (m : NM) : NM := ⟨m.h, m.n, m.d, none, m.l, 0, m.s⟩
theorem ns_ns (m : NM) : ns (ns m) = ns m := rfl
theorem right_ns (m : NM) : right (ns m) = right m := by unfold right headBad ns; rfl
theorem enc_ns (m : NM) : encN (ns m) = encN m := by simp only [encN, ns]
theorem chk_ns {h0 : Int} : ∀ (l : List NM) (i : Nat) (d : Int), chk h0 i d (l.map ns) = chk h0 i d l
 | [], _, _ => rfl
 | m :: l, i, d => by
  show (if right (ns m) = false then 1 else if (ns m).h ≠ h0 then 19 else if (i : Int) < (ns m).n then 21 else if (ns m).n < (i : Int) then 5 else if (ns m).d < d then 18 else chk h0 (i + 1) (ns m).d (l.map ns)) = _
  rw [chk_ns l, right_ns]; rfl
theorem check_ns (l : List NM) : check (l.map ns) = check l := by
 have e : hdH (l.map ns) = hdH l := by cases l <;> rfl
 unfold check
 rw [e, chk_ns, List.length_map]
theorem check_len {l : List NM} (h : check l = 0) : l.length ≤ 400 := by
 unfold check at h
 split at h
 · cases h
 · omega
/-! ### the order of bytes -/
theorem cb_refl : ∀ s : Str, Lib.compareBytes s s = 0
 | [] => rfl
 | a :: l => by
  unfold Lib.compareBytes
  rw [if_neg (UInt8.lt_irrefl a), if_neg (UInt8.lt_irrefl a), cb_refl l]
theorem u8_tri (a b : UInt8) : a < b ∨ b < a ∨ a = b := by
 rcases Nat.lt_trichotomy a.toNat b.toNat with h | h | h
 · exact .inl (UInt8.lt_iff_toNat_lt.2 h)
 · exact .inr (.inr (UInt8.toNat_inj.1 h))
 · exact .inr (.inl (UInt8.lt_iff_toNat_lt.2 h))
theorem cb_eq : ∀ {s t : Str}, Lib.compareBytes s t = 0 → s = t
 | [], [], _ => rfl
 | [], _ :: _, h => by simp [Lib.compareBytes] at h
 | _ :: _, [], h => by simp [Lib.compareBytes] at h
 | a :: s, b :: t, h => by
  unfold Lib.compareBytes at h
  split at h
  · cases h
  · split at h
    · cases h
    · rename_i h1 h2
      rcases u8_tri a b with h3 | h3 | h3
      · exact absurd h3 h1
      · exact absurd h3 h2
      · rw [h3, cb_eq h]
theorem cb_anti : ∀ s t : Str, Lib.compareBytes t s = - Lib.compareBytes s t
 | [], [] => rfl
 | [], _ :: _ => rfl
 | _ :: _, [] => rfl
 | a :: s, b :: t => by
  unfold Lib.compareBytes
  rcases u8_tri a b with h | h | h
  · have h2 : ¬ b < a := fun h2 => UInt8.lt_asymm h h2
    rw [if_neg h2, if_pos h, if_pos h]; rfl
  · have h2 : ¬ a < b := fun h2 => UInt8.lt_asymm h h2
    rw [if_pos h, if_neg h2, if_pos h]
  · subst h
    rw [if_neg (UInt8.lt_irrefl a), if_neg (UInt8.lt_irrefl a), if_neg (UInt8.lt_irrefl a), if_neg (UInt8.lt_irrefl a), cb_anti s t]
theorem cb_lt : ∀ {s t u : Str}, Lib.compareBytes s t < 0 → Lib.compareBytes t u < 0 → Lib.compareBytes s u < 0
 | [], _, [], h1, h2 => by
  rename_i t
  cases t with
  | nil => simp [Lib.compareBytes] at h1
  | cons b t => simp [Lib.compareBytes] at h2
 | [], _, _ :: _, _, _ => by simp [Lib.compareBytes]
 | _ :: _, [], _, h1, _ => by simp [Lib.compareBytes] at h1
 | _ :: _, _ :: _, [], _, h2 => by simp [Lib.compareBytes] at h2
 | a :: s, b :: t, c :: u, h1, h2 => by
  unfold Lib.compareBytes at h1 h2 ⊢
  rcases u8_tri a b with hab | hab | hab
  · rcases u8_tri b c with hbc | hbc | hbc
    · rw [if_pos (UInt8.lt_trans hab hbc)]; decide
    · rw [if_neg (fun h => UInt8.lt_asymm h hbc), if_pos hbc] at h2; exact absurd h2 (by decide)
    · subst hbc; rw [if_pos hab]; decide
  · rw [if_neg (fun h => UInt8.lt_asymm h hab), if_pos hab] at h1; exact absurd h1 (by decide)
  · subst hab
    rcases u8_tri a c with hbc | hbc | hbc
    · rw [if_pos hbc]; decide
    · rw [if_neg (fun h => UInt8.lt_asymm h hbc), if_pos hbc] at h2; exact absurd h2 (by decide)
    · subst hbc
      rw [if_neg (UInt8.lt_irrefl a), if_neg (UInt8.lt_irrefl a)] at h1 h2 ⊢
      exact cb_lt h1 h2
/-! ### the order of notes -/
def cmpN (a b : NM) : Int := if Lib.compareInt a.h b.h ≠ 0 then Lib.compareInt a.h b.h else if Lib.compareInt a.n b.n ≠ 0 then Lib.compareInt a.n b.n else Lib.compareBytes (encN a) (encN b)
theorem ci_cases (a b : Int) : (a < b ∧ Lib.compareInt a b = -1) ∨ (b < a ∧ Lib.compareInt a b = 1) ∨ (a = b ∧ Lib.compareInt a b = 0) := by
 unfold Lib.compareInt
 by_cases h : a < b
 · exact .inl ⟨h, if_pos h⟩
 · by_cases h2 : b < a
   · exact .inr (.inl ⟨h2, by rw [if_neg h, if_pos h2]⟩)
   · exact .inr (.inr ⟨by omega, by rw [if_neg h, if_neg h2]⟩)
/-- the order, laid open -/
theorem cmpN_lt {a b : NM} : cmpN a b < 0 ↔ a.h < b.h ∨ (a.h = b.h ∧ (a.n < b.n ∨ (a.n = b.n ∧ Lib.compareBytes (encN a) (encN b) < 0))) := by
 unfold cmpN
 rcases ci_cases a.h b.h with ⟨h, e⟩ | ⟨h, e⟩ | ⟨h, e⟩ <;> rw [e]
 · simp; omega
 · simp; omega
 · rcases ci_cases a.n b.n with ⟨h2, e⟩ | ⟨h2, e⟩ | ⟨h2, e⟩ <;> rw [e] <;> simp <;> omega
theorem cmpN_zero {a b : NM} : cmpN a b = 0 ↔ a.h = b.h ∧ a.n = b.n ∧ encN a = encN b := by
 unfold cmpN
 rcases ci_cases a.h b.h with ⟨h, e⟩ | ⟨h, e⟩ | ⟨h, e⟩ <;> rw [e]
 · simp; omega
 · simp; omega
 · rcases ci_cases a.n b.n with ⟨h2, e⟩ | ⟨h2, e⟩ | ⟨h2, e⟩ <;> rw [e]
   · simp; omega
   · simp; omega
   · simp only [ne_eq, not_true_eq_false, if_false]
     exact ⟨fun h3 => ⟨h, h2, cb_eq h3⟩, fun h3 => by rw [h3.2.2, cb_refl]⟩
theorem ci_anti (a b : Int) : Lib.compareInt b a = - Lib.compareInt a b := by
 rcases ci_cases a b with ⟨h, e⟩ | ⟨h, e⟩ | ⟨h, e⟩ <;> rcases ci_cases b a with ⟨h2, e2⟩ | ⟨h2, e2⟩ | ⟨h2, e2⟩ <;> rw [e, e2] <;> first | omega | rfl
theorem cmpN_anti (a b : NM) : cmpN b a = - cmpN a b := by
 unfold cmpN
 rw [ci_anti a.h b.h, ci_anti a.n b.n, cb_anti (encN a) (encN b)]
 rcases ci_cases a.h b.h with ⟨h, e⟩ | ⟨h, e⟩ | ⟨h, e⟩ <;> rw [e] <;> try rfl
 rcases ci_cases a.n b.n with ⟨h, e⟩ | ⟨h, e⟩ | ⟨h, e⟩ <;> rw [e] <;> rfl
theorem cmpN_irrefl (a : NM) : cmpN a a = 0 := cmpN_zero.2 ⟨rfl, rfl, rfl⟩
theorem cmpN_trans {a b c : NM} (h1 : cmpN a b < 0) (h2 : cmpN b c < 0) : cmpN a c < 0 := by
 rw [cmpN_lt] at *
 rcases h1 with h1 | ⟨h1, h1' | ⟨h1', h1''⟩⟩ <;> rcases h2 with h2 | ⟨h2, h2' | ⟨h2', h2''⟩⟩
 · exact .inl (by omega)
 · exact .inl (by omega)
 · exact .inl (by omega)
 · exact .inl (by omega)
 · exact .inr ⟨by omega, .inl (by omega)⟩
 · exact .inr ⟨by omega, .inl (by omega)⟩
 · exact .inl (by omega)
 · exact .inr ⟨by omega, .inl (by omega)⟩
 · exact .inr ⟨by omega, .inr ⟨by omega, cb_lt h1'' h2''⟩⟩
theorem cmpN_ns (a b : NM) : cmpN (ns a) (ns b) = cmpN a b := by unfold cmpN; rw [enc_ns, enc_ns]; rfl
theorem right_I64 {m : NM} (h : right m = true) : ∀ r ∈ m.l, Wr.Ok r.h ∧ Wr.Ok r.n := by
 intro r hr
 obtain ⟨j, hj⟩ := List.getElem?_of_mem hr
 have := (refs_get ⟨-1, 0⟩ m.l (right_refs h) j r hj).1
 unfold kn bel at this
 simp only [Bool.and_eq_true, decide_eq_true_eq] at this
 unfold Wr.Ok
 omega
theorem enc_inj {a b : NM} (ha : right a = true) (hb : right b = true) (h : encN a = encN b) : ns a = ns b := by
 have h1 := (dec_enc ha (right_I64 ha)).2
 have h2 := (dec_enc hb (right_I64 hb)).2
 rw [h] at h1
 exact h1.symm.trans h2
theorem cmpN_eq {a b : NM} (ha : right a = true) (hb : right b = true) (h : cmpN a b = 0) : ns a = ns b := enc_inj ha hb (cmpN_zero.1 h).2.2
/-! ### joined lists -/
def SortedN (l : List NM) : Prop := l.Pairwise fun a b => cmpN a b < 0
def GoodN (l : List NM) : Prop := ∀ x ∈ l, right x = true ∧ ns x = x
def insN (x : NM) : List NM → List NM
 | [] => [x]
 | y :: l => if x = y then y :: l else if cmpN x y < 0 then x :: y :: l else y :: insN x l
def joinN (l : List NM) : List NM := (l.filter right).foldl (fun acc x => insN (ns x) acc) []
/-- x is a right note of l -/
def InN (l : List NM) (x : NM) : Prop := ∃ y ∈ l, right y = true ∧ ns y = x
theorem mem_insN {x a : NM} : ∀ {l : List NM}, x ∈ insN a l ↔ x = a ∨ x ∈ l
 | [] => by simp [insN]
 | y :: l => by
  unfold insN
  split
  · rename_i h; subst h; simp
  · split
    · simp
    · simp only [List.mem_cons, mem_insN (l := l)]
      constructor
      · rintro (h | h | h)
        · exact .inr (.inl h)
        · exact .inl h
        · exact .inr (.inr h)
      · rintro (h | h | h)
        · exact .inr (.inl h)
        · exact .inl h
        · exact .inr (.inr h)
theorem ins_good {a : NM} {l : List NM} (ha : right a = true ∧ ns a = a) (h : GoodN l) : GoodN (insN a l) := by
 intro x hx
 rcases mem_insN.1 hx with rfl | hx
 · exact ha
 · exact h x hx
theorem ins_sorted {a : NM} (ha : right a = true ∧ ns a = a) : ∀ {l : List NM}, GoodN l → SortedN l → SortedN (insN a l)
 | [], _, _ => by unfold insN SortedN; simp
 | y :: l, hg, hs => by
  unfold insN
  have hs' := List.pairwise_cons.1 hs
  split
  · exact hs
  · rename_i hne
    split
    · rename_i hlt
      refine List.pairwise_cons.2 ⟨fun z hz => ?_, hs⟩
      rcases List.mem_cons.1 hz with rfl | hz
      · exact hlt
      · exact cmpN_trans hlt (hs'.1 z hz)
    · rename_i hlt
      refine List.pairwise_cons.2 ⟨fun z hz => ?_, ins_sorted ha (fun x hx => hg x (List.mem_cons_of_mem _ hx)) hs'.2⟩
      rcases mem_insN.1 hz with rfl | hz
      · have h1 := cmpN_anti y z
        have h2 : cmpN y z ≠ 0 := fun h0 => by
         have hy := hg y (List.mem_cons_self ..)
         have := cmpN_eq hy.1 ha.1 h0
         rw [hy.2, ha.2] at this
         exact hne this.symm
        omega
      · exact hs'.1 z hz
theorem fold_spec : ∀ (l acc : List NM), (∀ x ∈ l, right x = true) → GoodN acc → SortedN acc →
 SortedN (l.foldl (fun acc x => insN (ns x) acc) acc) ∧ GoodN (l.foldl (fun acc x => insN (ns x) acc) acc) ∧ ∀ x, x ∈ l.foldl (fun acc x => insN (ns x) acc) acc ↔ x ∈ acc ∨ ∃ y ∈ l, ns y = x
 | [], acc, _, hg, hs => ⟨hs, hg, fun x => by simp⟩
 | a :: l, acc, hr, hg, hs => by
  have ha : right (ns a) = true ∧ ns (ns a) = ns a := ⟨by rw [right_ns]; exact hr a (List.mem_cons_self ..), ns_ns a⟩
  obtain ⟨h1, h2, h3⟩ := fold_spec l (insN (ns a) acc) (fun x hx => hr x (List.mem_cons_of_mem _ hx)) (ins_good ha hg) (ins_sorted ha hg hs)
  refine ⟨h1, h2, fun x => ?_⟩
  rw [List.foldl_cons, h3, mem_insN]
  constructor
  · rintro ((h | h) | ⟨y, hy, h⟩)
    · exact .inr ⟨a, List.mem_cons_self .., h.symm⟩
    · exact .inl h
    · exact .inr ⟨y, List.mem_cons_of_mem _ hy, h⟩
  · rintro (h | ⟨y, hy, h⟩)
    · exact .inl (.inr h)
    · rcases List.mem_cons.1 hy with rfl | hy
      · exact .inl (.inl h.symm)
      · exact .inr ⟨y, hy, h⟩
theorem join_spec (l : List NM) : SortedN (joinN l) ∧ GoodN (joinN l) ∧ ∀ x, x ∈ joinN l ↔ InN l x := by
 obtain ⟨h1, h2, h3⟩ := fold_spec (l.filter right) [] (fun x hx => (List.mem_filter.1 hx).2) (fun x hx => by cases hx) List.Pairwise.nil
 refine ⟨h1, h2, fun x => ?_⟩
 unfold joinN
 rw [h3]
 constructor
 · rintro (h | ⟨y, hy, h⟩)
   · cases h
   · exact ⟨y, (List.mem_filter.1 hy).1, (List.mem_filter.1 hy).2, h⟩
 · rintro ⟨y, hy, hr, h⟩
   exact .inr ⟨y, List.mem_filter.2 ⟨hy, hr⟩, h⟩
theorem join_sorted (l : List NM) : SortedN (joinN l) := (join_spec l).1
theorem join_good (l : List NM) : GoodN (joinN l) := (join_spec l).2.1
theorem mem_join {l : List NM} {x : NM} : x ∈ joinN l ↔ InN l x := (join_spec l).2.2 x
/-- a sorted list is known by its members -/
theorem sorted_uniq : ∀ {l l2 : List NM}, SortedN l → SortedN l2 → (∀ x, x ∈ l ↔ x ∈ l2) → l = l2
 | [], [], _, _, _ => rfl
 | [], y :: l2, _, _, h => by have := (h y).2 (List.mem_cons_self ..); cases this
 | x :: l, [], _, _, h => by have := (h x).1 (List.mem_cons_self ..); cases this
 | x :: l, y :: l2, h1, h2, h => by
  have p1 := List.pairwise_cons.1 h1
  have p2 := List.pairwise_cons.1 h2
  have e : x = y := by
   rcases List.mem_cons.1 ((h x).1 (List.mem_cons_self ..)) with e | e
   · exact e
   · rcases List.mem_cons.1 ((h y).2 (List.mem_cons_self ..)) with e2 | e2
     · exact e2.symm
     · have a1 := p2.1 x e
       have a2 := p1.1 y e2
       have := cmpN_anti x y
       omega
  subst e
  congr 1
  refine sorted_uniq p1.2 p2.2 fun z => ?_
  constructor
  · intro hz
    rcases List.mem_cons.1 ((h z).1 (List.mem_cons_of_mem _ hz)) with e | e
    · subst e
      have := p1.1 z hz
      rw [cmpN_irrefl] at this; omega
    · exact e
  · intro hz
    rcases List.mem_cons.1 ((h z).2 (List.mem_cons_of_mem _ hz)) with e | e
    · subst e
      have := p2.1 z hz
      rw [cmpN_irrefl] at this; omega
    · exact e
theorem join_congr {l l2 : List NM} (h : ∀ x, InN l x ↔ InN l2 x) : joinN l = joinN l2 :=
 sorted_uniq (join_sorted l) (join_sorted l2) fun x => by rw [mem_join, mem_join, h]
theorem InN_map {l : List NM} {x : NM} : InN (l.map ns) x ↔ InN l x := by
 unfold InN
 constructor
 · rintro ⟨y, hy, hr, h⟩
   obtain ⟨z, hz, rfl⟩ := List.mem_map.1 hy
   exact ⟨z, hz, by rwa [right_ns] at hr, h⟩
 · rintro ⟨y, hy, hr, h⟩
   exact ⟨ns y, List.mem_map_of_mem hy, by rw [right_ns]; exact hr, by rw [ns_ns]; exact h⟩
theorem join_map (l : List NM) : joinN (l.map ns) = joinN l := join_congr fun _ => InN_map
end Go.Proofs.YtdcbjedkddgfkaaGreatDoor
