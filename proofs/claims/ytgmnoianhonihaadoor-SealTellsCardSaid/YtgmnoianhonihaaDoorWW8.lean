/-
  The reference's encodings, walked: digits, Int, Num, Text, Nums, Texts. Condition: at most 1,000,000 elements, and a bound on the bytes.
-/
import Derived.Test.YtgmnoianhonihaaDoorWW3
import Derived.Test.YtgmnoianhonihaaDoorWW5
import Derived.Lib.LazyBuf
import Derived.Laws.IdiomStrings
namespace Go.Proofs.YtgmnoianhonihaaDoor
set_option linter.unusedVariables false
set_option linter.unusedSimpArgs false
set_option linter.unusedSectionVars false
open Go.RowKit

def KByte : Row UInt8 := ⟨1, fun m => [.int .u8 ((m.toNat : Nat) : Int)], fun _ => True, fun _ => rfl, by decide, fun x u hu => by
  simp at hu
  rcases hu with rfl; rfl⟩
section
variable {P : Program} {w : World} {n : Nat} {l : List (Nat × Value)} {a : Act} {dst : Option Tmp} {ty : TypeId} {pos : String} {aft : Array Edge} {g : Option (Nat × Bool)} {x y : Operand}
theorem r_cvI {src dt : TypeId} {u : TypeDesc} {k : IntKind} {p : Int} {q : Int} (hs : P.underlying src = some u) (hd : P.underlying dt = some (.int .u8)) (H : Fr n l a) (hx : ev l x = some (.int k p)) (hq : p = q) (hp : 0 ≤ p ∧ p < 256) :
    (execOp a.eval ⟨dst, .convert src dt x, ty, pos, aft, g⟩).run P w = .ok (.value (.int .u8 q)) w := by
  subst hq
  have h := run_convert_int w src dt k p (by rw [hs]; rfl) (by unfold Program.intKind; rw [hd])
  have e : P.intKind dt = .u8 := by unfold Program.intKind; rw [hd]
  have e2 : IntKind.u8.wrap p = p := by simp [IntKind.wrap, IntKind.signed, IntKind.bits]; omega
  rw [e, e2] at h
  simp [execOp, H.eval hx, h]
theorem r_cvB {src dt e : TypeId} {v : Value} {t : Str} {S : Nat → Prop} (hs : P.underlying src = some (.slice e)) (he : P.underlying e = some (.int .u8)) (hd : P.underlying dt = some .string) (H : Fr n l a) (hx : ev l x = some v) (h : SliceOf S 1 KByte.R w v t) (ht : 0 < t.length) :
    (execOp a.eval ⟨dst, .convert src dt x, ty, pos, aft, g⟩).run P w = .ok (.value (strV t)) w := by
  obtain ⟨A, c, rfl, _⟩ := SliceOf.shape h
  obtain ⟨_, _, _, hA⟩ := Row.el KByte h ht
  obtain ⟨p, rfl⟩ := Option.isSome_iff_exists.1 hA
  have hr := run_convert_bytes_back (P := P) w src dt e p c t hs he hd fun j hj => by
    have := CA.first (Row.ce KByte h (List.getElem?_eq_getElem hj) rfl w (Only.refl _ _))
    rw [← this]
    show _ = w.cell? ((Option.getD (some p) ⟨0, 0, none⟩).add (j * 1))
    rw [Nat.mul_one]; rfl
  simp [execOp, H.eval hx, hr, strV]
end
namespace Wr
theorem dig_len {k : Nat} : Lib.decDigits (-(-((k : Nat) : Int))).toNat = Lib.itoa (k : Int) := by
  rw [Int.neg_neg]; unfold Lib.itoa; rw [if_neg (by omega)]
theorem intE_neg {n : Int} (h : n < 0) : intE n = ([45] ++ Lib.decDigits (-n).toNat) ++ [59] := by
  unfold intE Lib.itoa; rw [if_pos h, show n.natAbs = (-n).toNat by omega]; rfl
theorem intE_pos {n : Int} (h : ¬ n < 0) : intE n = Lib.decDigits (-(-n)).toNat ++ [59] := by
  unfold intE Lib.itoa; rw [if_neg h, Int.neg_neg]
theorem textE_r {t : Str} : textE t = Lib.decDigits (-(-((t.length : Nat) : Int))).toNat ++ [58] ++ t ++ [44] := by
  rw [dig_len]; rfl
end Wr
set_option maxRecDepth 20000 in
set_option maxHeartbeats 4000000 in
theorem digits_k (k : Nat) : ∀ (w : World) (n : Int), n = -(k : Int) → k ≤ 9223372036854775808 → Calls Tryd.prog 69 [.int .i64 n].toArray w (Fix (strV (Lib.decDigits k)) w) := by
  induction k using Nat.strongRecOn
  rename_i k ih
  intro w n hn hk
  have hrm : Int.tmod n 10 = -((k % 10 : Nat) : Int) := by subst hn; rw [Int.neg_tmod]; rfl
  have hqt : Int.tdiv n 10 = -((k / 10 : Nat) : Int) := by subst hn; rw [Int.neg_tdiv]; rfl
  obtain ⟨d, hd⟩ : ∃ d : UInt8, d = UInt8.ofNat (48 + k % 10) := ⟨_, rfl⟩
  have hd2 : d.toNat = 48 + k % 10 := by rw [hd]; exact dig_byte _ (Nat.mod_lt _ (by decide))
  refine calls_start Tryd.func69 rfl rfl ?_
  intro az Hz
  rw [Tryd.ntmps69] at Hz
  refine wp_seq_k fun K1 hK1 => ?_
  -- ref.go:5
  refine wp_region_lit ?_
  refine L (r_as Hz rfl) Hz rfl ?_
  clear Hz az; intro az Hz
  refine hK1 _ _ ?_
  refine wp_seq_k fun K2 hK2 => ?_
  -- ref.go:6
  refine wp_region_lit ?_
  refine L (r_mv Hz rfl) Hz rfl ?_
  clear Hz az; intro az Hz
  refine L (r_remI Hz rfl rfl (by decide)) Hz rfl ?_
  clear Hz az; intro az Hz
  have i3 : I64 ((48 - (Int.tmod n 10))) := by unfold I64; omega
  refine L (r_subI (r := (48 - (Int.tmod n 10))) Hz rfl rfl rfl i3) Hz rfl ?_
  clear Hz az; intro az Hz
  refine L (r_cvI (q := ((d.toNat : Nat) : Int)) Tryd.underlying3 Tryd.underlying5 Hz rfl (by rw [hd2]; omega) (by omega)) Hz rfl ?_
  clear Hz az; intro az Hz
  obtain ⟨A4, w5, hw, hA, r6, o7⟩ := Row.made (w := w) KByte (e := 5) ([d] : List UInt8) (by simp only [List.length_cons, List.length_nil]; unfold maxLen; omega)
  refine L (r_bs (z := .int .u8 (0)) (size := 1) (vs := [(0, .int .u8 (((d.toNat : Nat) : Int)))]) (cs := List.flatMap KByte.cells [d]) Tryd.underlying94 Tryd.sizeOf5 Tryd.zeroValue5 rfl (Fr.evalps Hz rfl) (by kernel_rfl)) Hz rfl ?_
  rw [← hw, ← hA]; clear Hz az; intro az Hz
  clear hw hA
  have ok8 : ∀ zq ∈ ([d] : List UInt8), KByte.ok zq := by intro zq hx; simp only [List.mem_cons, List.not_mem_nil, or_false] at hx; rcases hx with rfl <;> first | exact True.intro
  have h9 := Row.own KByte r6 ok8
  have h10 := SliceOf.pl h9
  refine L (r_cvB Tryd.underlying94 Tryd.underlying5 Tryd.underlying9 Hz rfl h10 (Nat.zero_lt_one)) Hz rfl ?_
  clear Hz az; intro az Hz
  refine L (r_as Hz rfl) Hz rfl ?_
  clear Hz az; intro az Hz
  refine hK2 _ _ ?_
  refine wp_seq_k fun K11 hK11 => ?_
  refine wp_seq_k fun K12 hK12 => ?_
  -- ref.go:7
  refine wp_region_lit ?_
  refine L (r_mv Hz rfl) Hz rfl ?_
  clear Hz az; intro az Hz
  refine L (r_gtI Hz rfl rfl) Hz rfl ?_
  clear Hz az; intro az Hz
  refine hK12 _ _ ?_
  refine br Hz rfl (fun hc13 => ?_) (fun hc13 => ?_)
  · -- if0
    have p14 := of_decide_eq_true hc13
    refine wp_seq_k fun K15 hK15 => ?_
    -- ref.go:8
    refine wp_region_lit ?_
    refine L (r_mv Hz rfl) Hz rfl ?_
    clear Hz az; intro az Hz
    refine L (r_as Hz rfl) Hz rfl ?_
    clear Hz az; intro az Hz
    refine hK15 _ _ ?_
    refine wp_ret ?_
    show bodyPost _ _ _ .ret _ _
    refine ret_of (vs := [strV ([d])]) Hz Tryd.results69 ⟨rfl, trivial⟩ ?_
    have hk3 : k < 10 := by omega
    rw [dec_small hk3, show k = k % 10 by omega, ← hd]; exact ⟨rfl, o7⟩
  · -- else0
    have p16 := of_decide_eq_false hc13
    refine wp_skip ?_
    refine hK11 _ _ ?_
    refine wp_seq_k fun K17 hK17 => ?_
    -- ref.go:10
    refine wp_region_lit ?_
    refine L (r_mv Hz rfl) Hz rfl ?_
    clear Hz az; intro az Hz
    refine L (r_quoI Hz rfl rfl (by decide) (by unfold I64; omega)) Hz rfl ?_
    clear Hz az; intro az Hz
    have hk2 : ¬ k < 10 := by omega
    have hdl := dec_len (k / 10) 19 (by omega)
    refine LCV (v := strV (Lib.decDigits (k / 10))) Hz rfl rfl Tryd.call69 (ih (k / 10) (by omega) _ _ (by omega) (by omega)) rfl fun w18 o19 => ?_
    clear Hz az; intro az Hz
    refine L (r_mv Hz rfl) Hz rfl ?_
    clear Hz az; intro az Hz
    refine L (r_addS Hz rfl rfl (by (try simp only [List.length_append, List.length_cons, List.length_nil]); omega)) Hz rfl ?_
    clear Hz az; intro az Hz
    refine L (r_as Hz rfl) Hz rfl ?_
    clear Hz az; intro az Hz
    refine hK17 _ _ ?_
    refine wp_ret ?_
    show bodyPost _ _ _ .ret _ _
    refine ret_of (vs := [strV (Lib.decDigits (k / 10) ++ [d])]) Hz Tryd.results69 ⟨rfl, trivial⟩ ?_
    have O20 : Only NoF w w18 := (Only.trans' o7 o19)
    rw [dec_big hk2, ← hd]; exact ⟨rfl, O20⟩

theorem digits_len {n : Int} (h : -9223372036854775808 ≤ n ∧ n ≤ 0) : (Lib.decDigits (-n).toNat).length ≤ 20 := dec_len _ 19 (by omega)
theorem digits_v (w : World) (n : Int) (h : -9223372036854775808 ≤ n ∧ n ≤ 0) : Calls Tryd.prog 69 [.int .i64 n].toArray w (Fix (strV (Lib.decDigits (-n).toNat)) w) := digits_k _ _ _ (by omega) (by omega)

set_option maxRecDepth 20000 in
set_option maxHeartbeats 4000000 in
theorem vInt_v (w : World) (n : Int) (hn : Wr.Ok n) : Calls Tryd.prog 20 [.int .i64 n].toArray w (Fix (strV (Wr.intE n)) w) := by
  refine calls_start Tryd.func20 rfl rfl ?_
  intro az Hz
  rw [Tryd.ntmps20] at Hz
  refine wp_seq_k fun K1 hK1 => ?_
  -- ref.go:22
  refine wp_region_lit ?_
  refine L (r_as Hz rfl) Hz rfl ?_
  clear Hz az; intro az Hz
  refine hK1 _ _ ?_
  refine wp_seq_k fun K2 hK2 => ?_
  refine wp_seq_k fun K3 hK3 => ?_
  -- ref.go:23
  refine wp_region_lit ?_
  refine L (r_mv Hz rfl) Hz rfl ?_
  clear Hz az; intro az Hz
  refine L (r_ltI Hz rfl rfl) Hz rfl ?_
  clear Hz az; intro az Hz
  refine hK3 _ _ ?_
  refine br Hz rfl (fun hc4 => ?_) (fun hc4 => ?_)
  · -- if0
    have p5 := of_decide_eq_true hc4
    refine wp_seq_k fun K6 hK6 => ?_
    -- ref.go:24
    refine wp_region_lit ?_
    refine L (r_mv Hz rfl) Hz rfl ?_
    clear Hz az; intro az Hz
    have hdl := digits_len (n := n) (by unfold Wr.Ok at hn; omega)
    refine LCV (v := strV (Lib.decDigits (-n).toNat)) Hz rfl rfl Tryd.call69 (digits_v _ n (by unfold Wr.Ok at hn; omega)) rfl fun w7 o8 => ?_
    clear Hz az; intro az Hz
    refine L (r_addS Hz rfl rfl (by (try simp only [List.length_append, List.length_cons, List.length_nil]); unfold Wr.Ok at hn; omega)) Hz rfl ?_
    clear Hz az; intro az Hz
    refine L (r_addS Hz rfl rfl (by (try simp only [List.length_append, List.length_cons, List.length_nil]); unfold Wr.Ok at hn; omega)) Hz rfl ?_
    clear Hz az; intro az Hz
    refine L (r_as Hz rfl) Hz rfl ?_
    clear Hz az; intro az Hz
    refine hK6 _ _ ?_
    refine wp_ret ?_
    show bodyPost _ _ _ .ret _ _
    refine ret_of (vs := [strV ([45] ++ Lib.decDigits (-n).toNat ++ [59])]) Hz Tryd.results20 ⟨rfl, trivial⟩ ?_
    rw [Wr.intE_neg (of_decide_eq_true hc4)]; exact ⟨rfl, o8⟩
  · -- else0
    have p9 := of_decide_eq_false hc4
    refine wp_skip ?_
    refine hK2 _ _ ?_
    refine wp_seq_k fun K10 hK10 => ?_
    -- ref.go:26
    refine wp_region_lit ?_
    refine L (r_mv Hz rfl) Hz rfl ?_
    clear Hz az; intro az Hz
    have i11 : I64 (-(n)) := by unfold I64; unfold Wr.Ok at hn; omega
    refine L (r_neg (r := -(n)) Hz rfl rfl i11) Hz rfl ?_
    clear Hz az; intro az Hz
    have hdl := digits_len (n := -(n)) (by unfold Wr.Ok at hn; omega)
    refine LCV (v := strV (Lib.decDigits (-(-(n))).toNat)) Hz rfl rfl Tryd.call69 (digits_v _ (-(n)) (by unfold Wr.Ok at hn; omega)) rfl fun w12 o13 => ?_
    clear Hz az; intro az Hz
    refine L (r_addS Hz rfl rfl (by (try simp only [List.length_append, List.length_cons, List.length_nil]); unfold Wr.Ok at hn; omega)) Hz rfl ?_
    clear Hz az; intro az Hz
    refine L (r_as Hz rfl) Hz rfl ?_
    clear Hz az; intro az Hz
    refine hK10 _ _ ?_
    refine wp_ret ?_
    show bodyPost _ _ _ .ret _ _
    refine ret_of (vs := [strV (Lib.decDigits (-(-(n))).toNat ++ [59])]) Hz Tryd.results20 ⟨rfl, trivial⟩ ?_
    rw [Wr.intE_pos (of_decide_eq_false hc4)]; exact ⟨rfl, o13⟩

set_option maxRecDepth 20000 in
set_option maxHeartbeats 4000000 in
theorem vNum_v (w : World) (n : Int) (hn : Wr.Ok n) : Calls Tryd.prog 18 [.int .i64 n].toArray w (Fix (strV (Wr.numE n)) w) := by
  refine calls_start Tryd.func18 rfl rfl ?_
  intro az Hz
  rw [Tryd.ntmps18] at Hz
  refine wp_seq_k fun K1 hK1 => ?_
  -- ref.go:14
  refine wp_region_lit ?_
  refine L (r_as Hz rfl) Hz rfl ?_
  clear Hz az; intro az Hz
  refine hK1 _ _ ?_
  refine wp_seq_k fun K2 hK2 => ?_
  refine wp_seq_k fun K3 hK3 => ?_
  -- ref.go:15
  refine wp_region_lit ?_
  refine L (r_mv Hz rfl) Hz rfl ?_
  clear Hz az; intro az Hz
  refine L (r_ltI Hz rfl rfl) Hz rfl ?_
  clear Hz az; intro az Hz
  refine hK3 _ _ ?_
  refine br Hz rfl (fun hc4 => ?_) (fun hc4 => ?_)
  · -- if0
    have p5 := of_decide_eq_true hc4
    refine wp_seq_k fun K6 hK6 => ?_
    -- ref.go:16
    refine wp_region_lit ?_
    refine L (r_as Hz rfl) Hz rfl ?_
    clear Hz az; intro az Hz
    refine hK6 _ _ ?_
    refine wp_ret ?_
    show bodyPost _ _ _ .ret _ _
    refine ret_of (vs := [strV ([])]) Hz Tryd.results18 ⟨rfl, trivial⟩ ?_
    unfold Wr.numE; rw [if_pos (of_decide_eq_true hc4)]; exact ⟨rfl, (Only.refl NoF w)⟩
  · -- else0
    have p7 := of_decide_eq_false hc4
    refine wp_skip ?_
    refine hK2 _ _ ?_
    refine wp_seq_k fun K8 hK8 => ?_
    -- ref.go:18
    refine wp_region_lit ?_
    refine L (r_mv Hz rfl) Hz rfl ?_
    clear Hz az; intro az Hz
    refine LCV (v := strV (Wr.intE n)) Hz rfl rfl Tryd.call20 (vInt_v _ n hn) rfl fun w9 o10 => ?_
    clear Hz az; intro az Hz
    refine L (r_as Hz rfl) Hz rfl ?_
    clear Hz az; intro az Hz
    refine hK8 _ _ ?_
    refine wp_ret ?_
    show bodyPost _ _ _ .ret _ _
    refine ret_of (vs := [strV (Wr.intE n)]) Hz Tryd.results18 ⟨rfl, trivial⟩ ?_
    unfold Wr.numE; rw [if_neg (of_decide_eq_false hc4)]; exact ⟨rfl, o10⟩

set_option maxRecDepth 20000 in
set_option maxHeartbeats 4000000 in
theorem vText_v (w : World) (t : Str) (ht : t.length ≤ 1000000000) : Calls Tryd.prog 22 [strV t].toArray w (Fix (strV (Wr.textE t)) w) := by
  refine calls_start Tryd.func22 rfl rfl ?_
  intro az Hz
  rw [Tryd.ntmps22] at Hz
  refine wp_seq_k fun K1 hK1 => ?_
  -- ref.go:30
  refine wp_region_lit ?_
  refine L (r_as Hz rfl) Hz rfl ?_
  clear Hz az; intro az Hz
  refine hK1 _ _ ?_
  refine wp_seq_k fun K2 hK2 => ?_
  -- ref.go:30
  refine wp_region_lit ?_
  refine L (r_mv Hz rfl) Hz rfl ?_
  clear Hz az; intro az Hz
  refine L (r_lenS Tryd.underlying9 Hz rfl) Hz rfl ?_
  clear Hz az; intro az Hz
  have i3 : I64 (-(((List.length (t) : Nat) : Int))) := by unfold I64; omega
  refine L (r_neg (r := -(((List.length (t) : Nat) : Int))) Hz rfl rfl i3) Hz rfl ?_
  clear Hz az; intro az Hz
  have hdl := digits_len (n := -(((List.length (t) : Nat) : Int))) (by omega)
  refine LCV (v := strV (Lib.decDigits (-(-(((List.length (t) : Nat) : Int)))).toNat)) Hz rfl rfl Tryd.call69 (digits_v _ (-(((List.length (t) : Nat) : Int))) (by omega)) rfl fun w4 o5 => ?_
  clear Hz az; intro az Hz
  refine L (r_addS Hz rfl rfl (by (try simp only [List.length_append, List.length_cons, List.length_nil]); omega)) Hz rfl ?_
  clear Hz az; intro az Hz
  refine L (r_mv Hz rfl) Hz rfl ?_
  clear Hz az; intro az Hz
  refine L (r_addS Hz rfl rfl (by (try simp only [List.length_append, List.length_cons, List.length_nil]); omega)) Hz rfl ?_
  clear Hz az; intro az Hz
  refine L (r_addS Hz rfl rfl (by (try simp only [List.length_append, List.length_cons, List.length_nil]); omega)) Hz rfl ?_
  clear Hz az; intro az Hz
  refine L (r_as Hz rfl) Hz rfl ?_
  clear Hz az; intro az Hz
  refine hK2 _ _ ?_
  refine wp_ret ?_
  show bodyPost _ _ _ .ret _ _
  refine ret_of (vs := [strV (Lib.decDigits (-(-(((List.length (t) : Nat) : Int)))).toNat ++ [58] ++ t ++ [44])]) Hz Tryd.results22 ⟨rfl, trivial⟩ ?_
  rw [Wr.textE_r]; exact ⟨rfl, o5⟩

set_option maxRecDepth 20000 in
set_option maxHeartbeats 4000000 in
theorem vNums_v_ {w : World} {l : List Int} {A1 : Option Addr} {c1 : Nat} (f1 : IntsV w (.slice A1 l.length c1) l) (hl : l.length ≤ 1000000) (hb : (l.flatMap Wr.intE).length ≤ 1000000000) : Calls Tryd.prog 24 [.slice A1 l.length c1].toArray w (Fix (strV (Wr.numsE l)) w) := by
  refine calls_start Tryd.func24 rfl rfl ?_
  intro az Hz
  rw [Tryd.ntmps24] at Hz
  refine wp_seq_k fun K1 hK1 => ?_
  -- ref.go:33
  refine wp_region_lit ?_
  refine L (r_as Hz rfl) Hz rfl ?_
  clear Hz az; intro az Hz
  refine hK1 _ _ ?_
  refine wp_seq_k fun K2 hK2 => ?_
  -- ref.go:34
  refine wp_region_lit ?_
  refine L (r_mv Hz rfl) Hz rfl ?_
  clear Hz az; intro az Hz
  refine L (r_lenL Tryd.underlying22 Hz rfl) Hz rfl ?_
  clear Hz az; intro az Hz
  have i3 : I64 (-(((l.length : Nat) : Int))) := by unfold I64; omega
  refine L (r_neg (r := -(((l.length : Nat) : Int))) Hz rfl rfl i3) Hz rfl ?_
  clear Hz az; intro az Hz
  have hdl := digits_len (n := -(((l.length : Nat) : Int))) (by omega)
  refine LCV (v := strV (Lib.decDigits (-(-(((l.length : Nat) : Int)))).toNat)) Hz rfl rfl Tryd.call69 (digits_v _ (-(((l.length : Nat) : Int))) (by omega)) rfl fun w4 o5 => ?_
  clear Hz az; intro az Hz
  refine L (r_addS Hz rfl rfl (by (try simp only [List.length_append, List.length_cons, List.length_nil]); omega)) Hz rfl ?_
  clear Hz az; intro az Hz
  refine L (r_as Hz rfl) Hz rfl ?_
  clear Hz az; intro az Hz
  refine hK2 _ _ ?_
  refine wp_seq_k fun K6 hK6 => ?_
  refine wp_seq_k fun K7 hK7 => ?_
  -- ref.go:35
  refine wp_region_lit ?_
  refine L (r_as Hz rfl) Hz rfl ?_
  clear Hz az; intro az Hz
  refine hK7 _ _ ?_
  refine wp_block ?_
  refine wp_loop_m (fun mz az W => ∃ k : Nat, ∃ X : Str, mz = l.length - k ∧ Fr 25 [(0, .slice A1 (l.length) c1), (4, .int .i64 ((k : Int))), (3, strV (X))] az ∧ (k ≤ l.length) ∧ (X = Lib.itoa ((l.length : Nat) : Int) ++ [91] ++ List.flatMap Wr.intE (List.take k l)) ∧ Only NoF w4 W) ?_ ?_
  · -- start
    exact ⟨_, 0, _, rfl, Hz.cut ⟨rfl, rfl, rfl, trivial⟩, Nat.zero_le _, (by rw [Wr.dig_len]; simp), (Only.refl NoF w4)⟩
  clear Hz az
  rintro mz az w8 ⟨k, X, hm10, Hz, hk, hX, o9⟩
  have hft := flat_take_le Wr.intE l k
  have hXl : X.length ≤ 21 + (List.flatMap Wr.intE (List.take k l)).length := by have hq := itoa_len ((l.length : Nat) : Int) (by omega) (by omega); rw [hX]; simp only [List.length_append, List.length_cons, List.length_nil]; omega
  refine wp_seq_k fun K11 hK11 => ?_
  refine wp_seq_k fun K12 hK12 => ?_
  -- ref.go:35
  refine wp_region_lit ?_
  refine L (r_mv Hz rfl) Hz rfl ?_
  clear Hz az; intro az Hz
  refine L (r_mv Hz rfl) Hz rfl ?_
  clear Hz az; intro az Hz
  refine L (r_lenL Tryd.underlying22 Hz rfl) Hz rfl ?_
  clear Hz az; intro az Hz
  refine L (r_ltI Hz rfl rfl) Hz rfl ?_
  clear Hz az; intro az Hz
  refine hK12 _ _ ?_
  refine br Hz rfl (fun hc13 => ?_) (fun hc13 => ?_)
  · -- if0
    have p14 := of_decide_eq_true hc13
    refine wp_skip ?_
    refine hK11 _ _ ?_
    refine wp_seq_k fun K15 hK15 => ?_
    refine wp_block ?_
    -- ref.go:36
    refine wp_region_lit ?_
    refine L (r_mv Hz rfl) Hz rfl ?_
    clear Hz az; intro az Hz
    refine L (r_mv Hz rfl) Hz rfl ?_
    clear Hz az; intro az Hz
    refine L (r_mv Hz rfl) Hz rfl ?_
    clear Hz az; intro az Hz
    have hk16 : k < (l).length := by omega
    have O22 : Only NoF w w8 := (Only.trans' o5 o9)
    have h23 := (SliceOf.kp f1 O22 (fun _ _ h => h) (fun _ _ _ _ h => h))
    obtain ⟨m17, hm18, ok19, hA20⟩ := Row.el KInt h23 hk16
    have E21 : ∀ W, Only NoF w8 W → CA W (eA A1 1 (k)) [.int .i64 (m17)] := Row.ce KInt h23 hm18 rfl
    refine L (r_ia (k := k) (size := 1) Tryd.underlying22 Tryd.sizeOf3 Hz rfl rfl rfl hk16 hA20) Hz rfl ?_
    clear Hz az; intro az Hz
    refine L (r_ld Tryd.isAgg3 Hz rfl (CA.first (E21 _ (Only.refl NoF w8)))) Hz rfl ?_
    clear Hz az; intro az Hz
    have hst := flat_step Wr.intE hm18
    have hst2 := flat_take_le Wr.intE l (k + 1); rw [hst, List.length_append] at hst2
    refine LCV (v := strV (Wr.intE m17)) Hz rfl rfl Tryd.call20 (vInt_v _ m17 (wr_ok ok19)) rfl fun w24 o25 => ?_
    clear Hz az; intro az Hz
    refine L (r_addS Hz rfl rfl (by (try simp only [List.length_append, List.length_cons, List.length_nil]); omega)) Hz rfl ?_
    clear Hz az; intro az Hz
    refine L (r_as Hz rfl) Hz rfl ?_
    clear Hz az; intro az Hz
    refine hK15 _ _ ?_
    -- ref.go:35
    refine wp_region_lit ?_
    refine L (r_mv Hz rfl) Hz rfl ?_
    clear Hz az; intro az Hz
    have i26 : I64 (((k : Int) + 1)) := by unfold I64; omega
    refine L (r_addI (r := ((k : Int) + 1)) Hz rfl rfl rfl i26) Hz rfl ?_
    clear Hz az; intro az Hz
    refine L (r_as Hz rfl) Hz rfl ?_
    clear Hz az; intro az Hz
    have O27 : Only NoF w4 w24 := (Only.trans' o9 o25)
    exact ⟨_, (by omega), k + 1, _, rfl, Hz.cut ⟨rfl, rfl, rfl, trivial⟩, (by omega), (by rw [hst, hX]; simp only [List.append_assoc]), O27⟩
  · -- else0
    have p28 := of_decide_eq_false hc13
    refine wp_exit ?_
    refine th_exit ?_
    refine th_exit ?_
    refine ib_hit ?_
    refine hK6 _ _ ?_
    refine wp_seq_k fun K29 hK29 => ?_
    -- ref.go:38
    refine wp_region_lit ?_
    refine L (r_mv Hz rfl) Hz rfl ?_
    clear Hz az; intro az Hz
    refine L (r_addS Hz rfl rfl (by (try simp only [List.length_append, List.length_cons, List.length_nil]); omega)) Hz rfl ?_
    clear Hz az; intro az Hz
    refine L (r_as Hz rfl) Hz rfl ?_
    clear Hz az; intro az Hz
    refine hK29 _ _ ?_
    refine wp_ret ?_
    show bodyPost _ _ _ .ret _ _
    refine ret_of (vs := [strV (X ++ [93])]) Hz Tryd.results24 ⟨rfl, trivial⟩ ?_
    rw [List.take_of_length_le (show l.length ≤ k by omega)] at hX
    have O30 : Only NoF w w8 := (Only.trans' o5 o9)
    exact ⟨congrArg (fun x => Ending.returned (strV (x ++ [93]))) hX, O30⟩

theorem vNums_v {w : World} {v : Value} {l : List Int} (h : IntsV w v l) (hl : l.length ≤ 1000000) (hb : (l.flatMap Wr.intE).length ≤ 1000000000) : Calls Tryd.prog 24 #[v] w (Fix (strV (Wr.numsE l)) w) := by
  obtain ⟨A1, c1, rfl, _⟩ := SliceOf.shape h
  exact vNums_v_ h hl hb

set_option maxRecDepth 20000 in
set_option maxHeartbeats 4000000 in
theorem vTexts_v_ {w : World} {l : List Str} {A1 : Option Addr} {c1 : Nat} (f1 : StrsV w (.slice A1 l.length c1) l) (hl : l.length ≤ 1000000) (hb : (l.flatMap Wr.textE).length ≤ 1000000000) : Calls Tryd.prog 26 [.slice A1 l.length c1].toArray w (Fix (strV (Wr.textsE l)) w) := by
  refine calls_start Tryd.func26 rfl rfl ?_
  intro az Hz
  rw [Tryd.ntmps26] at Hz
  refine wp_seq_k fun K1 hK1 => ?_
  -- ref.go:42
  refine wp_region_lit ?_
  refine L (r_as Hz rfl) Hz rfl ?_
  clear Hz az; intro az Hz
  refine hK1 _ _ ?_
  refine wp_seq_k fun K2 hK2 => ?_
  -- ref.go:43
  refine wp_region_lit ?_
  refine L (r_mv Hz rfl) Hz rfl ?_
  clear Hz az; intro az Hz
  refine L (r_lenL Tryd.underlying23 Hz rfl) Hz rfl ?_
  clear Hz az; intro az Hz
  have i3 : I64 (-(((l.length : Nat) : Int))) := by unfold I64; omega
  refine L (r_neg (r := -(((l.length : Nat) : Int))) Hz rfl rfl i3) Hz rfl ?_
  clear Hz az; intro az Hz
  have hdl := digits_len (n := -(((l.length : Nat) : Int))) (by omega)
  refine LCV (v := strV (Lib.decDigits (-(-(((l.length : Nat) : Int)))).toNat)) Hz rfl rfl Tryd.call69 (digits_v _ (-(((l.length : Nat) : Int))) (by omega)) rfl fun w4 o5 => ?_
  clear Hz az; intro az Hz
  refine L (r_addS Hz rfl rfl (by (try simp only [List.length_append, List.length_cons, List.length_nil]); omega)) Hz rfl ?_
  clear Hz az; intro az Hz
  refine L (r_as Hz rfl) Hz rfl ?_
  clear Hz az; intro az Hz
  refine hK2 _ _ ?_
  refine wp_seq_k fun K6 hK6 => ?_
  refine wp_seq_k fun K7 hK7 => ?_
  -- ref.go:44
  refine wp_region_lit ?_
  refine L (r_as Hz rfl) Hz rfl ?_
  clear Hz az; intro az Hz
  refine hK7 _ _ ?_
  refine wp_block ?_
  refine wp_loop_m (fun mz az W => ∃ k : Nat, ∃ X : Str, mz = l.length - k ∧ Fr 25 [(0, .slice A1 (l.length) c1), (4, .int .i64 ((k : Int))), (3, strV (X))] az ∧ (k ≤ l.length) ∧ (X = Lib.itoa ((l.length : Nat) : Int) ++ [91] ++ List.flatMap Wr.textE (List.take k l)) ∧ Only NoF w4 W) ?_ ?_
  · -- start
    exact ⟨_, 0, _, rfl, Hz.cut ⟨rfl, rfl, rfl, trivial⟩, Nat.zero_le _, (by rw [Wr.dig_len]; simp), (Only.refl NoF w4)⟩
  clear Hz az
  rintro mz az w8 ⟨k, X, hm10, Hz, hk, hX, o9⟩
  have hft := flat_take_le Wr.textE l k
  have hXl : X.length ≤ 21 + (List.flatMap Wr.textE (List.take k l)).length := by have hq := itoa_len ((l.length : Nat) : Int) (by omega) (by omega); rw [hX]; simp only [List.length_append, List.length_cons, List.length_nil]; omega
  refine wp_seq_k fun K11 hK11 => ?_
  refine wp_seq_k fun K12 hK12 => ?_
  -- ref.go:44
  refine wp_region_lit ?_
  refine L (r_mv Hz rfl) Hz rfl ?_
  clear Hz az; intro az Hz
  refine L (r_mv Hz rfl) Hz rfl ?_
  clear Hz az; intro az Hz
  refine L (r_lenL Tryd.underlying23 Hz rfl) Hz rfl ?_
  clear Hz az; intro az Hz
  refine L (r_ltI Hz rfl rfl) Hz rfl ?_
  clear Hz az; intro az Hz
  refine hK12 _ _ ?_
  refine br Hz rfl (fun hc13 => ?_) (fun hc13 => ?_)
  · -- if0
    have p14 := of_decide_eq_true hc13
    refine wp_skip ?_
    refine hK11 _ _ ?_
    refine wp_seq_k fun K15 hK15 => ?_
    refine wp_block ?_
    -- ref.go:45
    refine wp_region_lit ?_
    refine L (r_mv Hz rfl) Hz rfl ?_
    clear Hz az; intro az Hz
    refine L (r_mv Hz rfl) Hz rfl ?_
    clear Hz az; intro az Hz
    refine L (r_mv Hz rfl) Hz rfl ?_
    clear Hz az; intro az Hz
    have hk16 : k < (l).length := by omega
    have O22 : Only NoF w w8 := (Only.trans' o5 o9)
    have h23 := (SliceOf.kp f1 O22 (fun _ _ h => h) (fun _ _ _ _ h => h))
    obtain ⟨m17, hm18, ok19, hA20⟩ := Row.el KStr h23 hk16
    have E21 : ∀ W, Only NoF w8 W → CA W (eA A1 1 (k)) [strV (m17)] := Row.ce KStr h23 hm18 rfl
    refine L (r_ia (k := k) (size := 1) Tryd.underlying23 Tryd.sizeOf9 Hz rfl rfl rfl hk16 hA20) Hz rfl ?_
    clear Hz az; intro az Hz
    refine L (r_ld Tryd.isAgg9 Hz rfl (CA.first (E21 _ (Only.refl NoF w8)))) Hz rfl ?_
    clear Hz az; intro az Hz
    have hst := flat_step Wr.textE hm18
    have hst2 := flat_take_le Wr.textE l (k + 1); rw [hst, List.length_append] at hst2
    refine LCV (v := strV (Wr.textE m17)) Hz rfl rfl Tryd.call22 (vText_v _ m17 (text_len ok19 (Nat.le_trans hst2 hb))) rfl fun w24 o25 => ?_
    clear Hz az; intro az Hz
    refine L (r_addS Hz rfl rfl (by (try simp only [List.length_append, List.length_cons, List.length_nil]); omega)) Hz rfl ?_
    clear Hz az; intro az Hz
    refine L (r_as Hz rfl) Hz rfl ?_
    clear Hz az; intro az Hz
    refine hK15 _ _ ?_
    -- ref.go:44
    refine wp_region_lit ?_
    refine L (r_mv Hz rfl) Hz rfl ?_
    clear Hz az; intro az Hz
    have i26 : I64 (((k : Int) + 1)) := by unfold I64; omega
    refine L (r_addI (r := ((k : Int) + 1)) Hz rfl rfl rfl i26) Hz rfl ?_
    clear Hz az; intro az Hz
    refine L (r_as Hz rfl) Hz rfl ?_
    clear Hz az; intro az Hz
    have O27 : Only NoF w4 w24 := (Only.trans' o9 o25)
    exact ⟨_, (by omega), k + 1, _, rfl, Hz.cut ⟨rfl, rfl, rfl, trivial⟩, (by omega), (by rw [hst, hX]; simp only [List.append_assoc]), O27⟩
  · -- else0
    have p28 := of_decide_eq_false hc13
    refine wp_exit ?_
    refine th_exit ?_
    refine th_exit ?_
    refine ib_hit ?_
    refine hK6 _ _ ?_
    refine wp_seq_k fun K29 hK29 => ?_
    -- ref.go:47
    refine wp_region_lit ?_
    refine L (r_mv Hz rfl) Hz rfl ?_
    clear Hz az; intro az Hz
    refine L (r_addS Hz rfl rfl (by (try simp only [List.length_append, List.length_cons, List.length_nil]); omega)) Hz rfl ?_
    clear Hz az; intro az Hz
    refine L (r_as Hz rfl) Hz rfl ?_
    clear Hz az; intro az Hz
    refine hK29 _ _ ?_
    refine wp_ret ?_
    show bodyPost _ _ _ .ret _ _
    refine ret_of (vs := [strV (X ++ [93])]) Hz Tryd.results26 ⟨rfl, trivial⟩ ?_
    rw [List.take_of_length_le (show l.length ≤ k by omega)] at hX
    have O30 : Only NoF w w8 := (Only.trans' o5 o9)
    exact ⟨congrArg (fun x => Ending.returned (strV (x ++ [93]))) hX, O30⟩

theorem vTexts_v {w : World} {v : Value} {l : List Str} (h : StrsV w v l) (hl : l.length ≤ 1000000) (hb : (l.flatMap Wr.textE).length ≤ 1000000000) : Calls Tryd.prog 26 #[v] w (Fix (strV (Wr.textsE l)) w) := by
  obtain ⟨A1, c1, rfl, _⟩ := SliceOf.shape h
  exact vTexts_v_ h hl hb
end Go.Proofs.YtgmnoianhonihaaDoor
