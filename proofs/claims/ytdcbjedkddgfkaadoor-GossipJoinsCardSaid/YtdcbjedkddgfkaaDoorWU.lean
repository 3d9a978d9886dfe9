/-
  The wire's reader: lists, walked. Condition: at most 1,000,000 bytes are left, and a reader that has failed has none.
  The wire's laws: kind, number, small, walked. No condition but the listed variables.
  The wire's values (of the law side): in memory, their encodings, what reads them. Condition of the bounds: those of 'few'.
  The wire's laws: few, write, SameNums, SameTexts, equal, walked. Condition of the bounds: those of 'few'.
-/
import Derived.Test.YtdcbjedkddgfkaaDoorWir3
import Derived.Test.YtdcbjedkddgfkaaDoorWir4
namespace Go.Proofs.YtdcbjedkddgfkaaDoor
set_option linter.unusedVariables false
set_option linter.unusedSimpArgs false
set_option linter.unusedSectionVars false
section
open Go.RowKit
theorem text_ok {s : Wr.Rd} (h : s.r.length ≤ 1000000000) : (Wr.text s).1.length ≤ maxLen := by
 have := Wr.text_val_len s
 unfold maxLen; omega
end
section
open Go.RowKit
section
variable {P : Program} {w : World} {n : Nat} {l : List (Nat × Value)} {a : Act} {dst : Option Tmp} {ty : TypeId} {pos : String} {aft : Array Edge} {g : Option (Nat × Bool)} {x y : Operand}
theorem r_remI {p q : Int} {t yt : TypeId} (H : Fr n l a) (hx : ev l x = some (.int .i64 p)) (hy : ev l y = some (.int .i64 q)) (hq : q ≠ 0) : (execOp a.eval ⟨dst, .binOp .rem t x y yt, ty, pos, aft, g⟩).run P w = .ok (.value (.int .i64 (Int.tmod p q))) w := by
 simp [execOp, H.eval hx, H.eval hy, eqGuard, binOp, Op.intDiv, hq]
theorem r_quoI {p q : Int} {t yt : TypeId} (H : Fr n l a) (hx : ev l x = some (.int .i64 p)) (hy : ev l y = some (.int .i64 q)) (hq : q ≠ 0) (hb : I64 (Int.tdiv p q)) : (execOp a.eval ⟨dst, .binOp .quo t x y yt, ty, pos, aft, g⟩).run P w = .ok (.value (.int .i64 (Int.tdiv p q))) w := by
 have : IntKind.i64.wrap (Int.tdiv p q) = Int.tdiv p q := IntWalk.i64_in _ hb
 simp [execOp, H.eval hx, H.eval hy, eqGuard, binOp, Op.intDiv, hq, this]
theorem eq_bool {t : TypeId} {b c : Bool} (hu : P.underlying t = some .bool) : (Op.equal t (.bool b) (.bool c)).run P w = .ok (b == c) w := by
 have h : ∀ d, (Op.equalIn (d + 1) t (.bool b) (.bool c)).run P w = .ok (b == c) w := fun d => by
  simp only [Op.equalIn, Sem.run_bind, run_underlying hu, Result.andThen_ok, Sem.run_pure]
 exact h 9999
theorem r_eqB {t yt : TypeId} {b c : Bool} (hu : P.underlying t = some .bool) (H : Fr n l a) (hx : ev l x = some (.bool b)) (hy : ev l y = some (.bool c)) : (execOp a.eval ⟨dst, .binOp .eql t x y yt, ty, pos, aft, g⟩).run P w = .ok (.value (.bool (decide (b = c)))) w := by
 have hg : (eqGuard .eql t x y (.bool b) (.bool c)).run P w = .ok () w := by simp [eqGuard]
 have e : (b == c) = decide (b = c) := by cases b <;> cases c <;> rfl
 simp only [execOp, H.eval hx, H.eval hy, Sem.run_bind, hg, Result.andThen_ok, binOp, eq_bool hu, Sem.run_pure, e]
end
theorem fix_eq {P : Program} {f : FuncId} {vs : Array Value} {v v' : Value} {w : World} (h : v = v') (hc : Calls P f vs w (Fix v w)) : Calls P f vs w (Fix v' w) := h ▸ hc
theorem it0 : Lib.itoa 0 = [48] := by unfold Lib.itoa; rw [if_neg (by decide), dec_small (by decide)]; decide
theorem it1 : Lib.itoa 1 = [49] := by unfold Lib.itoa; rw [if_neg (by decide), dec_small (by decide)]; decide
theorem it2 : Lib.itoa 2 = [50] := by unfold Lib.itoa; rw [if_neg (by decide), dec_small (by decide)]; decide
theorem it3 : Lib.itoa 3 = [51] := by unfold Lib.itoa; rw [if_neg (by decide), dec_small (by decide)]; decide
theorem it7 : Lib.itoa 7 = [55] := by unfold Lib.itoa; rw [if_neg (by decide), dec_small (by decide)]; decide
theorem itm1 : Lib.itoa (-1) = [45, 49] := by unfold Lib.itoa; rw [if_pos (by decide), dec_small (by decide)]; decide
theorem itm7 : Lib.itoa (-7) = [45, 55] := by unfold Lib.itoa; rw [if_pos (by decide), dec_small (by decide)]; decide
theorem it300 : Lib.itoa 300 = [51, 48, 48] := by unfold Lib.itoa; rw [if_neg (by decide), show (300 : Int).toNat = 300 from rfl, dec_big (by decide), show 300 / 10 = 30 from rfl, dec_big (by decide), show 30 / 10 = 3 from rfl, dec_small (by decide)]; decide
theorem sm1 : Wr.numE 0 = [48, 59] := by unfold Wr.numE Wr.intE; rw [if_neg (by decide), it0]; rfl
theorem sm2 : Wr.numE 300 = [51, 48, 48, 59] := by unfold Wr.numE Wr.intE; rw [if_neg (by decide), it300]; rfl
theorem sm3 : Wr.numE (-1) = [] := by unfold Wr.numE; rw [if_pos (by decide)]
theorem sm4 : Wr.intE (-7) = [45, 55, 59] := by unfold Wr.intE; rw [itm7]; rfl
theorem sm5 : Wr.intE 7 = [55, 59] := by unfold Wr.intE; rw [it7]; rfl
theorem sm6 : Wr.textE [97, 44, 98] = [51, 58, 97, 44, 98, 44] := by unfold Wr.textE; rw [show ((([97, 44, 98] : Str).length : Nat) : Int) = 3 from rfl, it3]; rfl
theorem sm7b : List.flatMap Wr.intE [1, (-1)] = [49, 59, 45, 49, 59] := by simp only [List.flatMap_cons, List.flatMap_nil, Wr.intE]; rw [it1, itm1]; rfl
theorem sm7 : Wr.numsE [1, (-1)] = [50, 91, 49, 59, 45, 49, 59, 93] := by unfold Wr.numsE Wr.listE; rw [sm7b, show ((([1, (-1)] : List Int).length : Nat) : Int) = 2 from rfl, it2]; rfl
theorem sm8 : Wr.textsE [] = [48, 91, 93] := by unfold Wr.textsE Wr.listE; rw [show ((([] : List Str).length : Nat) : Int) = 0 from rfl, it0]; rfl
theorem sm9 : Wr.num ⟨[48, 48, 55, 59], false⟩ = (0, Wr.failed) := by
 rcases Wr.number_cases ⟨[48, 48, 55, 59], false⟩ 59 0 with ⟨h, _⟩ | ⟨n, h0, _, _, h1, _⟩
 · exact h
 · exfalso
   have e : Wr.head 59 [48, 48, 55, 59] = [48, 48, 55] := by decide
   dsimp only at h1
   rw [e] at h1
   have h2 := atoi_itoa n h0.1 h0.2
   rw [← h1, show Lib.atoiAll [48, 48, 55] = .ok 7 by decide] at h2
   injection h2 with h2
   rw [← h2, it7] at h1
   cases h1
end
section
open Go.RowKit
/-- a value, its two slices as they lie -/
structure VM where
 k : Int
 n : Int
 s : Str
 A : Option Addr
 l : List Int
 c : Nat
 B : Option Addr
 t : List Str
 d : Nat
def KVal (w : World) : Row VM := ⟨5, fun m => [.int .i64 m.k, .int .i64 m.n, strV m.s, .slice m.A m.l.length m.c, .slice m.B m.t.length m.d],
 fun m => I64 m.k ∧ I64 m.n ∧ m.s.length ≤ maxLen ∧ IntsV w (.slice m.A m.l.length m.c) m.l ∧ StrsV w (.slice m.B m.t.length m.d) m.t, fun _ => rfl, by decide, fun x u hu => by
 simp at hu
 rcases hu with rfl | rfl | rfl | rfl | rfl <;> rfl⟩
abbrev ValsV (w0 w : World) (v : Value) (l : List VM) : Prop := SliceOf AllB 5 (KVal w0).R w v l
/-- the bounds of 'few' on one value -/
def FewOne (m : VM) : Prop := m.l.length ≤ 400 ∧ m.t.length ≤ 400 ∧ m.s.length ≤ 400 ∧ ∀ x ∈ m.t, x.length ≤ 400
def FewV (l : List VM) : Prop := l.length ≤ 20 ∧ ∀ m ∈ l, FewOne m
theorem few_step {l : List VM} {i : Nat} {m : VM} (hm : l[i]? = some m) (h : ∀ x ∈ l.take i, FewOne x) (h1 : FewOne m) : ∀ x ∈ l.take (i + 1), FewOne x := by
 rw [take_succ_get hm]
 intro x hx
 rcases List.mem_append.1 hx with hx | hx
 · exact h x hx
 · rw [List.mem_singleton.1 hx]; exact h1
theorem txt_step {t : List Str} {q : Nat} {x : Str} (hm : t[q]? = some x) (h : ∀ y ∈ t.take q, y.length ≤ 400) (h1 : x.length ≤ 400) : ∀ y ∈ t.take (q + 1), y.length ≤ 400 := by
 rw [take_succ_get hm]
 intro y hy
 rcases List.mem_append.1 hy with hy | hy
 · exact h y hy
 · rw [List.mem_singleton.1 hy]; exact h1
/-! ### written and read -/
def wrE (m : VM) : Str :=
 if Wr.kind m.k = 0 then Wr.numE (Wr.absN m.n) else if Wr.kind m.k = 1 then Wr.intE m.n else if Wr.kind m.k = 2 then Wr.textE m.s else if Wr.kind m.k = 3 then Wr.numsE m.l else Wr.textsE m.t
def eqV (m : VM) (s : Wr.Rd) : Bool × Wr.Rd :=
 if Wr.kind m.k = 0 then (decide ((Wr.num s).1 = Wr.absN m.n), (Wr.num s).2) else if Wr.kind m.k = 1 then (decide ((Wr.int s).1 = m.n), (Wr.int s).2) else if Wr.kind m.k = 2 then (decide ((Wr.text s).1 = m.s), (Wr.text s).2)
 else if Wr.kind m.k = 3 then (decide ((Wr.nums s).1 = m.l), (Wr.nums s).2) else (decide ((Wr.texts s).1 = m.t), (Wr.texts s).2)
theorem absN_ok {n : Int} (h : Wr.Ok n) : Wr.Ok (Wr.absN n) ∧ 0 ≤ Wr.absN n := by
 unfold Wr.absN Wr.Ok at *
 split <;> omega
def OkM (m : VM) : Prop := Wr.Ok m.k ∧ Wr.Ok m.n ∧ (∀ x ∈ m.l, Wr.Ok x) ∧ m.s.length ≤ 9223372036854775807 ∧ m.l.length ≤ 9223372036854775807 ∧ m.t.length ≤ 9223372036854775807 ∧ ∀ x ∈ m.t, x.length ≤ 9223372036854775807
theorem okM {w : World} {m : VM} (h : (KVal w).ok m) : OkM m := by
 obtain ⟨h1, h2, h3, h4, h5⟩ := h
 have l4 := (SliceOf.lens h4).2
 have c4 := SliceOf.cap_ h4
 have l5 := (SliceOf.lens h5).2
 have c5 := SliceOf.cap_ h5
 refine ⟨wr_ok h1, wr_ok h2, fun x hx => wr_ok (Row.oks KInt h4 x hx), by unfold maxLen at h3; omega, by omega, by omega, fun x hx => ?_⟩
 have := Row.oks KStr h5 x hx
 have : x.length ≤ maxLen := this
 unfold maxLen at this
 omega
/-- one value written is read -/
theorem read_wr {m : VM} (h : OkM m) (r : Str) : eqV m ⟨wrE m ++ r, false⟩ = (true, ⟨r, false⟩) := by
 obtain ⟨h1, h2, h3, h4, h5, h6, h7⟩ := h
 obtain ⟨a1, a2⟩ := absN_ok h2
 unfold eqV wrE
 by_cases k0 : Wr.kind m.k = 0
 · simp only [if_pos k0, Wr.num_ok a1 a2, decide_true]
 · by_cases k1 : Wr.kind m.k = 1
   · simp only [if_neg k0, if_pos k1, Wr.int_ok h2, decide_true]
   · by_cases k2 : Wr.kind m.k = 2
     · simp only [if_neg k0, if_neg k1, if_pos k2, Wr.text_ok h4, decide_true]
     · by_cases k3 : Wr.kind m.k = 3
       · have := Wr.list_ok' (one := Wr.int) (oneE := Wr.intE) h5 (fun x hx r => Wr.int_ok (h3 x hx) r false) r
         simp only [if_neg k0, if_neg k1, if_neg k2, if_pos k3, Wr.nums, Wr.numsE, this, decide_true]
       · have := Wr.list_ok' (one := Wr.text) (oneE := Wr.textE) h6 (fun x hx r => Wr.text_ok (h7 x hx) r) r
         simp only [if_neg k0, if_neg k1, if_neg k2, if_neg k3, Wr.texts, Wr.textsE, this, decide_true]
/-- two values of one kind, the one's encoding ahead of the other's -/
theorem wr_prefix {m m' : VM} (h : OkM m) (h' : OkM m') (hk : Wr.kind m.k = Wr.kind m'.k) {x : Str} (e : wrE m' = wrE m ++ x) : x = [] := by
 have e1 := read_wr h x
 have e2 := read_wr h' []
 rw [List.append_nil, e] at e2
 have := congrArg (·.2) e1
 have h2 := congrArg (·.2) e2
 have key : (eqV m ⟨wrE m ++ x, false⟩).2 = (eqV m' ⟨wrE m ++ x, false⟩).2 := by
  unfold eqV
  rw [hk]
  by_cases k0 : Wr.kind m'.k = 0
  · simp only [if_pos k0]
  · by_cases k1 : Wr.kind m'.k = 1
    · simp only [if_neg k0, if_pos k1]
    · by_cases k2 : Wr.kind m'.k = 2
      · simp only [if_neg k0, if_neg k1, if_pos k2]
      · by_cases k3 : Wr.kind m'.k = 3
        · simp only [if_neg k0, if_neg k1, if_neg k2, if_pos k3]
        · simp only [if_neg k0, if_neg k1, if_neg k2, if_neg k3]
 rw [this, h2] at key
 have := congrArg Wr.Rd.r key
 exact this
theorem flat_len_le {α : Type} (f : α → Str) (b : Nat) : ∀ l : List α, (∀ x ∈ l, (f x).length ≤ b) → (l.flatMap f).length ≤ l.length * b
 | [], _ => by simp
 | x :: l, h => by
  have h1 := h x (by simp)
  have ih := flat_len_le f b l fun y hy => h y (by simp [hy])
  rw [List.flatMap_cons, List.length_append, List.length_cons, Nat.succ_mul]
  omega
theorem int_size {n : Int} (h : Wr.Ok n) : (Wr.intE n).length ≤ 21 := by
 have := itoa_len n h.1 h.2
 simp only [Wr.intE, List.length_append, List.length_singleton]; omega
theorem num_size {n : Int} (h : Wr.Ok n) : (Wr.numE n).length ≤ 21 := by
 unfold Wr.numE
 split
 · simp
 · exact int_size h
theorem text_size {s : Str} (h : s.length ≤ 400) : (Wr.textE s).length ≤ 422 := by
 have := itoa_len ((s.length : Nat) : Int) (by omega) (by omega)
 simp only [Wr.textE, List.length_append, List.length_singleton]; omega
theorem wrE_len {m : VM} (h : OkM m) (hf : FewOne m) : (wrE m).length ≤ 200000 ∧ (m.l.flatMap Wr.intE).length ≤ 8400 ∧ (m.t.flatMap Wr.textE).length ≤ 168800 := by
 obtain ⟨h1, h2, h3, h4, h5, h6, h7⟩ := h
 obtain ⟨f1, f2, f3, f4⟩ := hf
 have e3 := flat_len_le Wr.intE 21 m.l fun x hx => int_size (h3 x hx)
 have e4 := flat_len_le Wr.textE 422 m.t fun x hx => text_size (f4 x hx)
 have i1 := itoa_len ((m.l.length : Nat) : Int) (by omega) (by omega)
 have i2 := itoa_len ((m.t.length : Nat) : Int) (by omega) (by omega)
 have g3 : (m.l.flatMap Wr.intE).length ≤ 8400 := by omega
 have g4 : (m.t.flatMap Wr.textE).length ≤ 168800 := by omega
 refine ⟨?_, g3, g4⟩
 have e0 := num_size (absN_ok h2).1
 have e1 := int_size h2
 have e2 := text_size f3
 have n3 : (Wr.numsE m.l).length ≤ 8422 := by
  simp only [Wr.numsE, Wr.listE, List.length_append, List.length_singleton]; omega
 have n4 : (Wr.textsE m.t).length ≤ 168822 := by
  simp only [Wr.textsE, Wr.listE, List.length_append, List.length_singleton]; omega
 unfold wrE
 repeat' split
 all_goals omega
/-- many values written are read one after the other -/
theorem read_step {l : List VM} {k : Nat} {m : VM} (hm : l[k]? = some m) (h : OkM m) (tail : Str) : eqV m ⟨(l.drop k).flatMap wrE ++ tail, false⟩ = (true, ⟨(l.drop (k + 1)).flatMap wrE ++ tail, false⟩) := by
 obtain ⟨hk, rfl⟩ := List.getElem?_eq_some_iff.1 hm
 rw [List.drop_eq_getElem_cons hk, List.flatMap_cons, List.append_assoc]
 exact read_wr h _
end
section
open Go.RowKit
theorem few_cond {a b c : Nat} (h : ((decide ((400 : Int) < (a : Int)) || decide ((400 : Int) < (b : Int))) || decide ((400 : Int) < (c : Int))) = false) : a ≤ 400 ∧ b ≤ 400 ∧ c ≤ 400 := by
 simp only [Bool.or_eq_false_iff, decide_eq_false_iff_not] at h
 omega
theorem few_one {m : VM} (h : ((decide ((400 : Int) < ((m.l.length : Nat) : Int)) || decide ((400 : Int) < ((m.t.length : Nat) : Int))) || decide ((400 : Int) < ((m.s.length : Nat) : Int))) = false) (ht : ∀ y ∈ m.t, y.length ≤ 400) : FewOne m := by
 obtain ⟨h1, h2, h3⟩ := few_cond h
 exact ⟨h1, h2, h3, ht⟩
theorem same_step {α : Type} [DecidableEq α] {l l2 : List α} {k : Nat} {x y : α} (h1 : l[k]? = some x) (h2 : l2[k]? = some y) (h : l.take k = l2.take k) (he : (!decide (x = y)) = false) : l.take (k + 1) = l2.take (k + 1) := by
 rw [take_succ_get h1, take_succ_get h2, h, of_decide_eq_true (nt_f he)]
theorem same_ne {α : Type} [DecidableEq α] {l l2 : List α} {k : Nat} {x y : α} (h1 : l[k]? = some x) (h2 : l2[k]? = some y) (he : (!decide (x = y)) = true) : l ≠ l2 := by
 intro h
 rw [h, h2] at h1
 exact of_decide_eq_false (nt_t he) (Option.some.inj h1).symm
end
end Go.Proofs.YtdcbjedkddgfkaaDoor
