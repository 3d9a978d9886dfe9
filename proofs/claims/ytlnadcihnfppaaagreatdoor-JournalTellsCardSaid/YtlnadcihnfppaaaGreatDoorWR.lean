/-
  The reference's encodings, walked: digits, Int, Num, Text, Nums, Texts. Condition: at most 1,000,000 elements, and a bound on the bytes.
  The reference's reader, walked, but for lists. Condition: a reader that has failed has nothing left (Text).
-/
import Derived.Test.YtlnadcihnfppaaaGreatDoorWW2
import Derived.Test.YtlnadcihnfppaaaGreatDoorWU
import Derived.Lib.LazyBuf
import Derived.Laws.IdiomStrings
import Derived.Test.YtlnadcihnfppaaaGreatDoorWir5
namespace Go.Proofs.YtlnadcihnfppaaaGreatDoor
set_option linter.unusedVariables false
set_option linter.unusedSimpArgs false
set_option linter.unusedSectionVars false
section
open Go.RowKit

def KByte : Row UInt8 := ⟨1, fun m => [.int .u8 ((m.toNat : Nat) : Int)], fun _ => True, fun _ => rfl, by decide, fun x u hu => by
  simp at hu
  rcases hu with rfl; rfl⟩
section
variable {P : Program} {w : World} {n : Nat} {l : List (Nat × Value)} {a : Act} {dst : Option Tmp} {ty : TypeId} {pos : String} {aft : Array Edge} {g : Option (Nat × Bool)} {x y : Operand}
theorem r_cvI {src dt : TypeId} {u : TypeDesc} {k : IntKind} {p : Int} {q : Int} (hs : P.underlying src = some u) (hd : P.underlying dt = some (.int .u8)) (H : Fr n l a) (hx : ev l x = some (.int k p)) (hq : p = q) (hp : 0 ≤ p ∧ p < 256) :
    (execOp a.eval ⟨dst, .convert src dt x, ty, pos, aft, g⟩).run P w = .ok (.value (.int .u8 q)) w := by
  subst hq
  have h := run_convert_int w src dt k p (by rw [hs]; rfl) (by unfold Program.intKind; rw [hd])
  have e : P.intKind dt = .u8 := by unfold Program.intKind; rw [hd]
  have e2 : IntKind.u8.wrap p = p := by simp [IntKind.wrap, IntKind.signed, IntKind.bits]; omega
  rw [e, e2] at h
  simp [execOp, H.eval hx, h]
theorem r_cvB {src dt e : TypeId} {v : Value} {t : Str} {S : Nat → Prop} (hs : P.underlying src = some (.slice e)) (he : P.underlying e = some (.int .u8)) (hd : P.underlying dt = some .string) (H : Fr n l a) (hx : ev l x = some v) (h : SliceOf S 1 KByte.R w v t) (ht : 0 < t.length) :
    (execOp a.eval ⟨dst, .convert src dt x, ty, pos, aft, g⟩).run P w = .ok (.value (strV t)) w := by
  obtain ⟨A, c, rfl, _⟩ := SliceOf.shape h
  obtain ⟨_, _, _, hA⟩ := Row.el KByte h ht
  obtain ⟨p, rfl⟩ := Option.isSome_iff_exists.1 hA
  have hr := run_convert_bytes_back (P := P) w src dt e p c t hs he hd fun j hj => by
    have := CA.first (Row.ce KByte h (List.getElem?_eq_getElem hj) rfl w (Only.refl _ _))
    rw [← this]
    show _ = w.cell? ((Option.getD (some p) ⟨0, 0, none⟩).add (j * 1))
    rw [Nat.mul_one]; rfl
  simp [execOp, H.eval hx, hr, strV]
end
namespace Wr
theorem dig_len {k : Nat} : Lib.decDigits (-(-((k : Nat) : Int))).toNat = Lib.itoa (k : Int) := by
  rw [Int.neg_neg]; unfold Lib.itoa; rw [if_neg (by omega)]
theorem intE_neg {n : Int} (h : n < 0) : intE n = ([45] ++ Lib.decDigits (-n).toNat) ++ [59] := by
  unfold intE Lib.itoa; rw [if_pos h, show n.natAbs = (-n).toNat by omega]; rfl
theorem intE_pos {n : Int} (h : ¬ n < 0) : intE n = Lib.decDigits (-(-n)).toNat ++ [59] := by
  unfold intE Lib.itoa; rw [if_neg h, Int.neg_neg]
theorem textE_r {t : Str} : textE t = Lib.decDigits (-(-((t.length : Nat) : Int))).toNat ++ [58] ++ t ++ [44] := by
  rw [dig_len]; rfl
end Wr
set_option maxRecDepth 20000 in
set_option maxHeartbeats 4000000 in
theorem digits_k (k : Nat) : ∀ (w : World) (n : Int), n = -(k : Int) → k ≤ 9223372036854775808 → Calls Tryz.prog 81 [.int .i64 n].toArray w (Fix (strV (Lib.decDigits k)) w) := by
  induction k using Nat.strongRecOn
  rename_i k ih
  intro w n hn hk
  have hrm : Int.tmod n 10 = -((k % 10 : Nat) : Int) := by subst hn; rw [Int.neg_tmod]; rfl
  have hqt : Int.tdiv n 10 = -((k / 10 : Nat) : Int) := by subst hn; rw [Int.neg_tdiv]; rfl
  obtain ⟨d, hd⟩ : ∃ d : UInt8, d = UInt8.ofNat (48 + k % 10) := ⟨_, rfl⟩
  have hd2 : d.toNat = 48 + k % 10 := by rw [hd]; exact dig_byte _ (Nat.mod_lt _ (by decide))
  refine calls_start Tryz.func81 rfl rfl ?_
  intro az Hz
  rw [Tryz.ntmps81] at Hz
  refine wp_seq_k fun K1 hK1 => ?_
  -- ref.go:5
  refine wp_region_lit ?_
  refine L (r_as Hz rfl) Hz rfl ?_
  clear Hz az; intro az Hz
  refine hK1 _ _ ?_
  refine wp_seq_k fun K2 hK2 => ?_
  -- ref.go:6
  refine wp_region_lit ?_
  refine L (r_mv Hz rfl) Hz rfl ?_
  clear Hz az; intro az Hz
  refine L (r_remI Hz rfl rfl (by decide)) Hz rfl ?_
  clear Hz az; intro az Hz
  have i3 : I64 ((48 - (Int.tmod n 10))) := by unfold I64; omega
  refine L (r_subI (r := (48 - (Int.tmod n 10))) Hz rfl rfl rfl i3) Hz rfl ?_
  clear Hz az; intro az Hz
  refine L (r_cvI (q := ((d.toNat : Nat) : Int)) Tryz.underlying3 Tryz.underlying5 Hz rfl (by rw [hd2]; omega) (by omega)) Hz rfl ?_
  clear Hz az; intro az Hz
  obtain ⟨A4, w5, hw, hA, r6, o7⟩ := Row.made (w := w) KByte (e := 5) ([d] : List UInt8) (by simp only [List.length_cons, List.length_nil]; unfold maxLen; omega)
  refine L (r_bs (z := .int .u8 (0)) (size := 1) (vs := [(0, .int .u8 (((d.toNat : Nat) : Int)))]) (cs := List.flatMap KByte.cells [d]) Tryz.underlying96 Tryz.sizeOf5 Tryz.zeroValue5 rfl (Fr.evalps Hz rfl) (by kernel_rfl)) Hz rfl ?_
  rw [← hw, ← hA]; clear Hz az; intro az Hz
  clear hw hA
  have ok8 : ∀ zq ∈ ([d] : List UInt8), KByte.ok zq := by intro zq hx; simp only [List.mem_cons, List.not_mem_nil, or_false] at hx; rcases hx with rfl <;> first | exact True.intro
  have h9 := Row.own KByte r6 ok8
  have h10 := SliceOf.pl h9
  refine L (r_cvB Tryz.underlying96 Tryz.underlying5 Tryz.underlying9 Hz rfl h10 (Nat.zero_lt_one)) Hz rfl ?_
  clear Hz az; intro az Hz
  refine L (r_as Hz rfl) Hz rfl ?_
  clear Hz az; intro az Hz
  refine hK2 _ _ ?_
  refine wp_seq_k fun K11 hK11 => ?_
  refine wp_seq_k fun K12 hK12 => ?_
  -- ref.go:7
  refine wp_region_lit ?_
  refine L (r_mv Hz rfl) Hz rfl ?_
  clear Hz az; intro az Hz
  refine L (r_gtI Hz rfl rfl) Hz rfl ?_
  clear Hz az; intro az Hz
  refine hK12 _ _ ?_
  refine br Hz rfl (fun hc13 => ?_) (fun hc13 => ?_)
  · -- if0
    have p14 := of_decide_eq_true hc13
    refine wp_seq_k fun K15 hK15 => ?_
    -- ref.go:8
    refine wp_region_lit ?_
    refine L (r_mv Hz rfl) Hz rfl ?_
    clear Hz az; intro az Hz
    refine L (r_as Hz rfl) Hz rfl ?_
    clear Hz az; intro az Hz
    refine hK15 _ _ ?_
    refine wp_ret ?_
    show bodyPost _ _ _ .ret _ _
    refine ret_of (vs := [strV ([d])]) Hz Tryz.results81 ⟨rfl, trivial⟩ ?_
    have hk3 : k < 10 := by omega
    rw [dec_small hk3, show k = k % 10 by omega, ← hd]; exact ⟨rfl, o7⟩
  · -- else0
    have p16 := of_decide_eq_false hc13
    refine wp_skip ?_
    refine hK11 _ _ ?_
    refine wp_seq_k fun K17 hK17 => ?_
    -- ref.go:10
    refine wp_region_lit ?_
    refine L (r_mv Hz rfl) Hz rfl ?_
    clear Hz az; intro az Hz
    refine L (r_quoI Hz rfl rfl (by decide) (by unfold I64; omega)) Hz rfl ?_
    clear Hz az; intro az Hz
    have hk2 : ¬ k < 10 := by omega
    have hdl := dec_len (k / 10) 19 (by omega)
    refine LCV (v := strV (Lib.decDigits (k / 10))) Hz rfl rfl Tryz.call81 (ih (k / 10) (by omega) _ _ (by omega) (by omega)) rfl fun w18 o19 => ?_
    clear Hz az; intro az Hz
    refine L (r_mv Hz rfl) Hz rfl ?_
    clear Hz az; intro az Hz
    refine L (r_addS Hz rfl rfl (by (try simp only [List.length_append, List.length_cons, List.length_nil]); omega)) Hz rfl ?_
    clear Hz az; intro az Hz
    refine L (r_as Hz rfl) Hz rfl ?_
    clear Hz az; intro az Hz
    refine hK17 _ _ ?_
    refine wp_ret ?_
    show bodyPost _ _ _ .ret _ _
    refine ret_of (vs := [strV (Lib.decDigits (k / 10) ++ [d])]) Hz Tryz.results81 ⟨rfl, trivial⟩ ?_
    have O20 : Only NoF w w18 := (Only.trans' o7 o19)
    rw [dec_big hk2, ← hd]; exact ⟨rfl, O20⟩

theorem digits_len {n : Int} (h : -9223372036854775808 ≤ n ∧ n ≤ 0) : (Lib.decDigits (-n).toNat).length ≤ 20 := dec_len _ 19 (by omega)
theorem digits_v (w : World) (n : Int) (h : -9223372036854775808 ≤ n ∧ n ≤ 0) : Calls Tryz.prog 81 [.int .i64 n].toArray w (Fix (strV (Lib.decDigits (-n).toNat)) w) := digits_k _ _ _ (by omega) (by omega)

set_option maxRecDepth 20000 in
set_option maxHeartbeats 4000000 in
theorem vInt_v (w : World) (n : Int) (hn : Wr.Ok n) : Calls Tryz.prog 82 [.int .i64 n].toArray w (Fix (strV (Wr.intE n)) w) := by
  refine calls_start Tryz.func82 rfl rfl ?_
  intro az Hz
  rw [Tryz.ntmps82] at Hz
  refine wp_seq_k fun K1 hK1 => ?_
  -- ref.go:22
  refine wp_region_lit ?_
  refine L (r_as Hz rfl) Hz rfl ?_
  clear Hz az; intro az Hz
  refine hK1 _ _ ?_
  refine wp_seq_k fun K2 hK2 => ?_
  refine wp_seq_k fun K3 hK3 => ?_
  -- ref.go:23
  refine wp_region_lit ?_
  refine L (r_mv Hz rfl) Hz rfl ?_
  clear Hz az; intro az Hz
  refine L (r_ltI Hz rfl rfl) Hz rfl ?_
  clear Hz az; intro az Hz
  refine hK3 _ _ ?_
  refine br Hz rfl (fun hc4 => ?_) (fun hc4 => ?_)
  · -- if0
    have p5 := of_decide_eq_true hc4
    refine wp_seq_k fun K6 hK6 => ?_
    -- ref.go:24
    refine wp_region_lit ?_
    refine L (r_mv Hz rfl) Hz rfl ?_
    clear Hz az; intro az Hz
    have hdl := digits_len (n := n) (by unfold Wr.Ok at hn; omega)
    refine LCV (v := strV (Lib.decDigits (-n).toNat)) Hz rfl rfl Tryz.call81 (digits_v _ n (by unfold Wr.Ok at hn; omega)) rfl fun w7 o8 => ?_
    clear Hz az; intro az Hz
    refine L (r_addS Hz rfl rfl (by (try simp only [List.length_append, List.length_cons, List.length_nil]); unfold Wr.Ok at hn; omega)) Hz rfl ?_
    clear Hz az; intro az Hz
    refine L (r_addS Hz rfl rfl (by (try simp only [List.length_append, List.length_cons, List.length_nil]); unfold Wr.Ok at hn; omega)) Hz rfl ?_
    clear Hz az; intro az Hz
    refine L (r_as Hz rfl) Hz rfl ?_
    clear Hz az; intro az Hz
    refine hK6 _ _ ?_
    refine wp_ret ?_
    show bodyPost _ _ _ .ret _ _
    refine ret_of (vs := [strV ([45] ++ Lib.decDigits (-n).toNat ++ [59])]) Hz Tryz.results82 ⟨rfl, trivial⟩ ?_
    rw [Wr.intE_neg (of_decide_eq_true hc4)]; exact ⟨rfl, o8⟩
  · -- else0
    have p9 := of_decide_eq_false hc4
    refine wp_skip ?_
    refine hK2 _ _ ?_
    refine wp_seq_k fun K10 hK10 => ?_
    -- ref.go:26
    refine wp_region_lit ?_
    refine L (r_mv Hz rfl) Hz rfl ?_
    clear Hz az; intro az Hz
    have i11 : I64 (-(n)) := by unfold I64; unfold Wr.Ok at hn; omega
    refine L (r_neg (r := -(n)) Hz rfl rfl i11) Hz rfl ?_
    clear Hz az; intro az Hz
    have hdl := digits_len (n := -(n)) (by unfold Wr.Ok at hn; omega)
    refine LCV (v := strV (Lib.decDigits (-(-(n))).toNat)) Hz rfl rfl Tryz.call81 (digits_v _ (-(n)) (by unfold Wr.Ok at hn; omega)) rfl fun w12 o13 => ?_
    clear Hz az; intro az Hz
    refine L (r_addS Hz rfl rfl (by (try simp only [List.length_append, List.length_cons, List.length_nil]); unfold Wr.Ok at hn; omega)) Hz rfl ?_
    clear Hz az; intro az Hz
    refine L (r_as Hz rfl) Hz rfl ?_
    clear Hz az; intro az Hz
    refine hK10 _ _ ?_
    refine wp_ret ?_
    show bodyPost _ _ _ .ret _ _
    refine ret_of (vs := [strV (Lib.decDigits (-(-(n))).toNat ++ [59])]) Hz Tryz.results82 ⟨rfl, trivial⟩ ?_
    rw [Wr.intE_pos (of_decide_eq_false hc4)]; exact ⟨rfl, o13⟩

set_option maxRecDepth 20000 in
set_option maxHeartbeats 4000000 in
theorem vNum_v (w : World) (n : Int) (hn : Wr.Ok n) : Calls Tryz.prog 64 [.int .i64 n].toArray w (Fix (strV (Wr.numE n)) w) := by
  refine calls_start Tryz.func64 rfl rfl ?_
  intro az Hz
  rw [Tryz.ntmps64] at Hz
  refine wp_seq_k fun K1 hK1 => ?_
  -- ref.go:14
  refine wp_region_lit ?_
  refine L (r_as Hz rfl) Hz rfl ?_
  clear Hz az; intro az Hz
  refine hK1 _ _ ?_
  refine wp_seq_k fun K2 hK2 => ?_
  refine wp_seq_k fun K3 hK3 => ?_
  -- ref.go:15
  refine wp_region_lit ?_
  refine L (r_mv Hz rfl) Hz rfl ?_
  clear Hz az; intro az Hz
  refine L (r_ltI Hz rfl rfl) Hz rfl ?_
  clear Hz az; intro az Hz
  refine hK3 _ _ ?_
  refine br Hz rfl (fun hc4 => ?_) (fun hc4 => ?_)
  · -- if0
    have p5 := of_decide_eq_true hc4
    refine wp_seq_k fun K6 hK6 => ?_
    -- ref.go:16
    refine wp_region_lit ?_
    refine L (r_as Hz rfl) Hz rfl ?_
    clear Hz az; intro az Hz
    refine hK6 _ _ ?_
    refine wp_ret ?_
    show bodyPost _ _ _ .ret _ _
    refine ret_of (vs := [strV ([])]) Hz Tryz.results64 ⟨rfl, trivial⟩ ?_
    unfold Wr.numE; rw [if_pos (of_decide_eq_true hc4)]; exact ⟨rfl, (Only.refl NoF w)⟩
  · -- else0
    have p7 := of_decide_eq_false hc4
    refine wp_skip ?_
    refine hK2 _ _ ?_
    refine wp_seq_k fun K8 hK8 => ?_
    -- ref.go:18
    refine wp_region_lit ?_
    refine L (r_mv Hz rfl) Hz rfl ?_
    clear Hz az; intro az Hz
    refine LCV (v := strV (Wr.intE n)) Hz rfl rfl Tryz.call82 (vInt_v _ n hn) rfl fun w9 o10 => ?_
    clear Hz az; intro az Hz
    refine L (r_as Hz rfl) Hz rfl ?_
    clear Hz az; intro az Hz
    refine hK8 _ _ ?_
    refine wp_ret ?_
    show bodyPost _ _ _ .ret _ _
    refine ret_of (vs := [strV (Wr.intE n)]) Hz Tryz.results64 ⟨rfl, trivial⟩ ?_
    unfold Wr.numE; rw [if_neg (of_decide_eq_false hc4)]; exact ⟨rfl, o10⟩

set_option maxRecDepth 20000 in
set_option maxHeartbeats 4000000 in
theorem vText_v (w : World) (t : Str) (ht : t.length ≤ 1000000000) : Calls Tryz.prog 63 [strV t].toArray w (Fix (strV (Wr.textE t)) w) := by
  refine calls_start Tryz.func63 rfl rfl ?_
  intro az Hz
  rw [Tryz.ntmps63] at Hz
  refine wp_seq_k fun K1 hK1 => ?_
  -- ref.go:30
  refine wp_region_lit ?_
  refine L (r_as Hz rfl) Hz rfl ?_
  clear Hz az; intro az Hz
  refine hK1 _ _ ?_
  refine wp_seq_k fun K2 hK2 => ?_
  -- ref.go:30
  refine wp_region_lit ?_
  refine L (r_mv Hz rfl) Hz rfl ?_
  clear Hz az; intro az Hz
  refine L (r_lenS Tryz.underlying9 Hz rfl) Hz rfl ?_
  clear Hz az; intro az Hz
  have i3 : I64 (-(((List.length (t) : Nat) : Int))) := by unfold I64; omega
  refine L (r_neg (r := -(((List.length (t) : Nat) : Int))) Hz rfl rfl i3) Hz rfl ?_
  clear Hz az; intro az Hz
  have hdl := digits_len (n := -(((List.length (t) : Nat) : Int))) (by omega)
  refine LCV (v := strV (Lib.decDigits (-(-(((List.length (t) : Nat) : Int)))).toNat)) Hz rfl rfl Tryz.call81 (digits_v _ (-(((List.length (t) : Nat) : Int))) (by omega)) rfl fun w4 o5 => ?_
  clear Hz az; intro az Hz
  refine L (r_addS Hz rfl rfl (by (try simp only [List.length_append, List.length_cons, List.length_nil]); omega)) Hz rfl ?_
  clear Hz az; intro az Hz
  refine L (r_mv Hz rfl) Hz rfl ?_
  clear Hz az; intro az Hz
  refine L (r_addS Hz rfl rfl (by (try simp only [List.length_append, List.length_cons, List.length_nil]); omega)) Hz rfl ?_
  clear Hz az; intro az Hz
  refine L (r_addS Hz rfl rfl (by (try simp only [List.length_append, List.length_cons, List.length_nil]); omega)) Hz rfl ?_
  clear Hz az; intro az Hz
  refine L (r_as Hz rfl) Hz rfl ?_
  clear Hz az; intro az Hz
  refine hK2 _ _ ?_
  refine wp_ret ?_
  show bodyPost _ _ _ .ret _ _
  refine ret_of (vs := [strV (Lib.decDigits (-(-(((List.length (t) : Nat) : Int)))).toNat ++ [58] ++ t ++ [44])]) Hz Tryz.results63 ⟨rfl, trivial⟩ ?_
  rw [Wr.textE_r]; exact ⟨rfl, o5⟩

end
section
open Go.RowKit

set_option maxRecDepth 20000 in
set_option maxHeartbeats 4000000 in
theorem vback_v (w : World) (p : Str) (hp : p.length ≤ 1000000000) : Calls Tryz.prog 94 [strV p].toArray w (BackTo p w) := by
  refine calls_start Tryz.func94 rfl rfl ?_
  intro az Hz
  rw [Tryz.ntmps94] at Hz
  refine wp_seq_k fun K1 hK1 => ?_
  -- ref.go:67
  refine wp_region_lit ?_
  refine L (r_as Hz rfl) Hz rfl ?_
  clear Hz az; intro az Hz
  refine L (r_as Hz rfl) Hz rfl ?_
  clear Hz az; intro az Hz
  refine hK1 _ _ ?_
  refine wp_seq_k fun K2 hK2 => ?_
  -- ref.go:68
  refine wp_region_lit ?_
  refine L (r_as Hz rfl) Hz rfl ?_
  clear Hz az; intro az Hz
  refine hK2 _ _ ?_
  refine wp_seq_k fun K3 hK3 => ?_
  refine wp_seq_k fun K4 hK4 => ?_
  -- ref.go:69
  refine wp_region_lit ?_
  refine L (r_mv Hz rfl) Hz rfl ?_
  clear Hz az; intro az Hz
  refine L (r_lenS Tryz.underlying9 Hz rfl) Hz rfl ?_
  clear Hz az; intro az Hz
  refine L (r_gtI Hz rfl rfl) Hz rfl ?_
  clear Hz az; intro az Hz
  refine L (r_mv Hz rfl) Hz rfl ?_
  clear Hz az; intro az Hz
  refine LG Hz rfl rfl gd_t (fun hb => r_mv Hz rfl) rfl ?_
  clear Hz az; intro az Hz
  refine LG Hz rfl rfl gd_t (fun hb => r_ixD (k := 0) Tryz.underlying9 Hz (evg hb rfl) rfl rfl (by have := of_decide_eq_true hb; omega)) rfl ?_
  clear Hz az; intro az Hz
  refine LG Hz rfl rfl gd_t (fun hb => r_eqI Hz (evg hb rfl) rfl) rfl ?_
  clear Hz az; intro az Hz
  refine L (r_and Hz rfl rfl rfl) Hz rfl ?_
  clear Hz az; intro az Hz
  refine hK4 _ _ ?_
  refine br Hz rfl (fun hc5 => ?_) (fun hc5 => ?_)
  · -- if0
    have p6 := of_decide_eq_true (and_t hc5).1
    have p7 := of_decide_eq_true (and_t hc5).2
    have hF := Wr.sgn1 hc5
    have hpl : 1 ≤ List.length p := by omega
    -- ref.go:70
    refine wp_region_lit ?_
    refine L (r_as Hz rfl) Hz rfl ?_
    clear Hz az; intro az Hz
    refine hK3 _ _ ?_
    refine wp_seq_k fun K8 hK8 => ?_
    -- ref.go:72
    refine wp_region_lit ?_
    refine L (r_as Hz rfl) Hz rfl ?_
    clear Hz az; intro az Hz
    refine hK8 _ _ ?_
    refine wp_seq_k fun K9 hK9 => ?_
    refine wp_seq_k fun K10 hK10 => ?_
    -- ref.go:73
    refine wp_region_lit ?_
    refine L (r_mv Hz rfl) Hz rfl ?_
    clear Hz az; intro az Hz
    refine L (r_as Hz rfl) Hz rfl ?_
    clear Hz az; intro az Hz
    refine hK10 _ _ ?_
    refine wp_block ?_
    refine wp_loop_m (fun mz az W => ∃ i : Nat, ∃ N : Int, mz = p.length - i ∧ Fr 54 [(0, strV (p)), (4, .int .i64 (1)), (6, .int .i64 ((i : Int))), (5, .int .i64 (N))] az ∧ (1 ≤ i) ∧ (i ≤ p.length) ∧ (Wr.Ok N) ∧ (N = ((p.drop 1).take (i - 1)).foldl Wr.bstep 0) ∧ Only NoF w W) ?_ ?_
    · -- start
      exact ⟨_, 1, 0, rfl, Hz.cut ⟨rfl, rfl, rfl, rfl, trivial⟩, (Nat.le_refl _), (by omega), (by unfold Wr.Ok; omega), (by simp), (Only.refl NoF w)⟩
    clear Hz az
    rintro mz az w11 ⟨i, N, hm13, Hz, hi1, hi2, hNo, hN, o12⟩
    refine wp_seq_k fun K14 hK14 => ?_
    refine wp_seq_k fun K15 hK15 => ?_
    -- ref.go:73
    refine wp_region_lit ?_
    refine L (r_mv Hz rfl) Hz rfl ?_
    clear Hz az; intro az Hz
    refine L (r_mv Hz rfl) Hz rfl ?_
    clear Hz az; intro az Hz
    refine L (r_lenS Tryz.underlying9 Hz rfl) Hz rfl ?_
    clear Hz az; intro az Hz
    refine L (r_ltI Hz rfl rfl) Hz rfl ?_
    clear Hz az; intro az Hz
    refine hK15 _ _ ?_
    refine br Hz rfl (fun hc16 => ?_) (fun hc16 => ?_)
    · -- if1
      have p17 := of_decide_eq_true hc16
      refine wp_skip ?_
      refine hK14 _ _ ?_
      refine wp_seq_k fun K18 hK18 => ?_
      refine wp_block ?_
      refine wp_seq_k fun K19 hK19 => ?_
      refine wp_seq_k fun K20 hK20 => ?_
      -- ref.go:74
      refine wp_region_lit ?_
      refine L (r_mv Hz rfl) Hz rfl ?_
      clear Hz az; intro az Hz
      refine L (r_mv Hz rfl) Hz rfl ?_
      clear Hz az; intro az Hz
      refine L (r_ixD (k := i) Tryz.underlying9 Hz rfl rfl rfl (by omega)) Hz rfl ?_
      clear Hz az; intro az Hz
      refine L (r_ltI Hz rfl rfl) Hz rfl ?_
      clear Hz az; intro az Hz
      refine L (r_mv Hz rfl) Hz rfl ?_
      clear Hz az; intro az Hz
      refine LG Hz rfl rfl gd_f (fun hb => r_mv Hz rfl) rfl ?_
      clear Hz az; intro az Hz
      refine LG Hz rfl rfl gd_f (fun hb => r_mv Hz rfl) rfl ?_
      clear Hz az; intro az Hz
      refine LG Hz rfl rfl gd_f (fun hb => r_ixD (k := i) Tryz.underlying9 Hz (evg hb rfl) (evg hb rfl) rfl (by omega)) rfl ?_
      clear Hz az; intro az Hz
      refine LG Hz rfl rfl gd_f (fun hb => r_gtI Hz (evg hb rfl) rfl) rfl ?_
      clear Hz az; intro az Hz
      refine L (r_or Hz rfl rfl rfl) Hz rfl ?_
      clear Hz az; intro az Hz
      refine L (r_mv Hz rfl) Hz rfl ?_
      clear Hz az; intro az Hz
      refine LG Hz rfl rfl gd_f (fun hb => r_mv Hz rfl) rfl ?_
      clear Hz az; intro az Hz
      refine LG Hz rfl rfl gd_f (fun hb => r_gtI Hz (evg hb rfl) rfl) rfl ?_
      clear Hz az; intro az Hz
      refine L (r_or Hz rfl rfl rfl) Hz rfl ?_
      clear Hz az; intro az Hz
      refine hK20 _ _ ?_
      refine br Hz rfl (fun hc21 => ?_) (fun hc21 => ?_)
      · -- if2
        have d22 := hc21
        refine wp_seq_k fun K23 hK23 => ?_
        -- ref.go:75
        refine wp_region_lit ?_
        refine L (r_as Hz rfl) Hz rfl ?_
        clear Hz az; intro az Hz
        refine L (r_as Hz rfl) Hz rfl ?_
        clear Hz az; intro az Hz
        refine hK23 _ _ ?_
        refine wp_ret ?_
        show bodyPost _ _ _ .ret _ _
        refine ret_of (vs := [.int .i64 (0), .bool (false)]) Hz Tryz.results94 ⟨rfl, rfl, trivial⟩ ?_
        exact ⟨_, _, rfl, (by unfold Wr.Ok; omega), (fun h => by cases h), (fun _ => Wr.back_bad hF hi1 (by omega) hc21), o12⟩
      · -- else2
        have p24 := of_decide_eq_false (or_f (or_f hc21).1).1
        have p25 := of_decide_eq_false (or_f (or_f hc21).1).2
        have p26 := of_decide_eq_false (or_f hc21).2
        obtain ⟨hg1, hg2, hg3⟩ := Wr.back_good hc21
        refine wp_skip ?_
        refine hK19 _ _ ?_
        -- ref.go:77
        refine wp_region_lit ?_
        refine L (r_mv Hz rfl) Hz rfl ?_
        clear Hz az; intro az Hz
        refine L (r_mulW Hz rfl rfl) Hz rfl ?_
        clear Hz az; intro az Hz
        refine L (r_mv Hz rfl) Hz rfl ?_
        clear Hz az; intro az Hz
        refine L (r_mv Hz rfl) Hz rfl ?_
        clear Hz az; intro az Hz
        refine L (r_ixD (k := i) Tryz.underlying9 Hz rfl rfl rfl (by omega)) Hz rfl ?_
        clear Hz az; intro az Hz
        refine L (r_subU Hz rfl rfl (by omega)) Hz rfl ?_
        clear Hz az; intro az Hz
        refine L (r_cvJ Tryz.underlying5 Tryz.underlying3 Hz rfl (by omega)) Hz rfl ?_
        clear Hz az; intro az Hz
        refine L (r_subW Hz rfl rfl) Hz rfl ?_
        clear Hz az; intro az Hz
        refine L (r_as Hz rfl) Hz rfl ?_
        clear Hz az; intro az Hz
        refine hK18 _ _ ?_
        -- ref.go:73
        refine wp_region_lit ?_
        refine L (r_mv Hz rfl) Hz rfl ?_
        clear Hz az; intro az Hz
        have i27 : I64 (((i : Int) + 1)) := by unfold I64; omega
        refine L (r_addI (r := ((i : Int) + 1)) Hz rfl rfl rfl i27) Hz rfl ?_
        clear Hz az; intro az Hz
        refine L (r_as Hz rfl) Hz rfl ?_
        clear Hz az; intro az Hz
        exact ⟨_, (by omega), i + 1, Wr.bstep N (List.getD p i 0), rfl, Hz.cut ⟨rfl, rfl, rfl, rfl, trivial⟩, (by omega), (by omega), (Wr.wrap_ok _), (Wr.fold_next hi1 (by omega) hN), o12⟩
    · -- else1
      have p28 := of_decide_eq_false hc16
      refine wp_exit ?_
      refine th_exit ?_
      refine th_exit ?_
      refine ib_hit ?_
      refine hK9 _ _ ?_
      refine wp_seq_k fun K29 hK29 => ?_
      refine wp_seq_k fun K30 hK30 => ?_
      -- ref.go:79
      refine wp_region_lit ?_
      refine L (r_mv Hz rfl) Hz rfl ?_
      clear Hz az; intro az Hz
      refine L (r_eqL (b := false) Hz rfl rfl (by decide)) Hz rfl ?_
      clear Hz az; intro az Hz
      refine hK30 _ _ ?_
      refine br_false Hz rfl ?_
      refine wp_skip ?_
      refine hK29 _ _ ?_
      refine wp_seq_k fun K31 hK31 => ?_
      -- ref.go:82
      refine wp_region_lit ?_
      refine L (r_mv Hz rfl) Hz rfl ?_
      clear Hz az; intro az Hz
      refine L (r_mv Hz rfl) Hz rfl ?_
      clear Hz az; intro az Hz
      refine LCV (v := strV (Wr.intE N)) Hz rfl rfl Tryz.call82 (vInt_v _ N hNo) rfl fun w32 o33 => ?_
      clear Hz az; intro az Hz
      refine L (r_mv Hz rfl) Hz rfl ?_
      clear Hz az; intro az Hz
      refine L (r_addS Hz rfl rfl (by (try simp only [List.length_append, List.length_cons, List.length_nil]); omega)) Hz rfl ?_
      clear Hz az; intro az Hz
      refine L (r_eqS Hz rfl rfl) Hz rfl ?_
      clear Hz az; intro az Hz
      refine L (r_as Hz rfl) Hz rfl ?_
      clear Hz az; intro az Hz
      refine L (r_as Hz rfl) Hz rfl ?_
      clear Hz az; intro az Hz
      refine hK31 _ _ ?_
      refine wp_ret ?_
      show bodyPost _ _ _ .ret _ _
      refine ret_of (vs := [.int .i64 (N), .bool (decide (Wr.intE N = p ++ [59]))]) Hz Tryz.results94 ⟨rfl, rfl, trivial⟩ ?_
      have O34 : Only NoF w w32 := (Only.trans' o12 o33)
      exact ⟨_, _, rfl, hNo, (fun h => Wr.back_yes hNo h), (fun h => Wr.back_no1 hF (by omega) hN h), O34⟩
  · -- else0
    have d35 := hc5
    have hF := Wr.sgn0 hc5
    refine wp_skip ?_
    refine hK3 _ _ ?_
    refine wp_seq_k fun K36 hK36 => ?_
    -- ref.go:72
    refine wp_region_lit ?_
    refine L (r_as Hz rfl) Hz rfl ?_
    clear Hz az; intro az Hz
    refine hK36 _ _ ?_
    refine wp_seq_k fun K37 hK37 => ?_
    refine wp_seq_k fun K38 hK38 => ?_
    -- ref.go:73
    refine wp_region_lit ?_
    refine L (r_mv Hz rfl) Hz rfl ?_
    clear Hz az; intro az Hz
    refine L (r_as Hz rfl) Hz rfl ?_
    clear Hz az; intro az Hz
    refine hK38 _ _ ?_
    refine wp_block ?_
    refine wp_loop_m (fun mz az W => ∃ i : Nat, ∃ N : Int, mz = p.length - i ∧ Fr 54 [(0, strV (p)), (4, .int .i64 (0)), (6, .int .i64 ((i : Int))), (5, .int .i64 (N))] az ∧ (0 ≤ i) ∧ (i ≤ p.length) ∧ (Wr.Ok N) ∧ (N = ((p.drop 0).take (i - 0)).foldl Wr.bstep 0) ∧ Only NoF w W) ?_ ?_
    · -- start
      exact ⟨_, 0, 0, rfl, Hz.cut ⟨rfl, rfl, rfl, rfl, trivial⟩, (Nat.le_refl _), (Nat.zero_le _), (by unfold Wr.Ok; omega), (by simp), (Only.refl NoF w)⟩
    clear Hz az
    rintro mz az w39 ⟨i, N, hm41, Hz, hi1, hi2, hNo, hN, o40⟩
    refine wp_seq_k fun K42 hK42 => ?_
    refine wp_seq_k fun K43 hK43 => ?_
    -- ref.go:73
    refine wp_region_lit ?_
    refine L (r_mv Hz rfl) Hz rfl ?_
    clear Hz az; intro az Hz
    refine L (r_mv Hz rfl) Hz rfl ?_
    clear Hz az; intro az Hz
    refine L (r_lenS Tryz.underlying9 Hz rfl) Hz rfl ?_
    clear Hz az; intro az Hz
    refine L (r_ltI Hz rfl rfl) Hz rfl ?_
    clear Hz az; intro az Hz
    refine hK43 _ _ ?_
    refine br Hz rfl (fun hc44 => ?_) (fun hc44 => ?_)
    · -- if1
      have p45 := of_decide_eq_true hc44
      refine wp_skip ?_
      refine hK42 _ _ ?_
      refine wp_seq_k fun K46 hK46 => ?_
      refine wp_block ?_
      refine wp_seq_k fun K47 hK47 => ?_
      refine wp_seq_k fun K48 hK48 => ?_
      -- ref.go:74
      refine wp_region_lit ?_
      refine L (r_mv Hz rfl) Hz rfl ?_
      clear Hz az; intro az Hz
      refine L (r_mv Hz rfl) Hz rfl ?_
      clear Hz az; intro az Hz
      refine L (r_ixD (k := i) Tryz.underlying9 Hz rfl rfl rfl (by omega)) Hz rfl ?_
      clear Hz az; intro az Hz
      refine L (r_ltI Hz rfl rfl) Hz rfl ?_
      clear Hz az; intro az Hz
      refine L (r_mv Hz rfl) Hz rfl ?_
      clear Hz az; intro az Hz
      refine LG Hz rfl rfl gd_f (fun hb => r_mv Hz rfl) rfl ?_
      clear Hz az; intro az Hz
      refine LG Hz rfl rfl gd_f (fun hb => r_mv Hz rfl) rfl ?_
      clear Hz az; intro az Hz
      refine LG Hz rfl rfl gd_f (fun hb => r_ixD (k := i) Tryz.underlying9 Hz (evg hb rfl) (evg hb rfl) rfl (by omega)) rfl ?_
      clear Hz az; intro az Hz
      refine LG Hz rfl rfl gd_f (fun hb => r_gtI Hz (evg hb rfl) rfl) rfl ?_
      clear Hz az; intro az Hz
      refine L (r_or Hz rfl rfl rfl) Hz rfl ?_
      clear Hz az; intro az Hz
      refine L (r_mv Hz rfl) Hz rfl ?_
      clear Hz az; intro az Hz
      refine LG Hz rfl rfl gd_f (fun hb => r_mv Hz rfl) rfl ?_
      clear Hz az; intro az Hz
      refine LG Hz rfl rfl gd_f (fun hb => r_gtI Hz (evg hb rfl) rfl) rfl ?_
      clear Hz az; intro az Hz
      refine L (r_or Hz rfl rfl rfl) Hz rfl ?_
      clear Hz az; intro az Hz
      refine hK48 _ _ ?_
      refine br Hz rfl (fun hc49 => ?_) (fun hc49 => ?_)
      · -- if2
        have d50 := hc49
        refine wp_seq_k fun K51 hK51 => ?_
        -- ref.go:75
        refine wp_region_lit ?_
        refine L (r_as Hz rfl) Hz rfl ?_
        clear Hz az; intro az Hz
        refine L (r_as Hz rfl) Hz rfl ?_
        clear Hz az; intro az Hz
        refine hK51 _ _ ?_
        refine wp_ret ?_
        show bodyPost _ _ _ .ret _ _
        refine ret_of (vs := [.int .i64 (0), .bool (false)]) Hz Tryz.results94 ⟨rfl, rfl, trivial⟩ ?_
        exact ⟨_, _, rfl, (by unfold Wr.Ok; omega), (fun h => by cases h), (fun _ => Wr.back_bad hF hi1 (by omega) hc49), o40⟩
      · -- else2
        have p52 := of_decide_eq_false (or_f (or_f hc49).1).1
        have p53 := of_decide_eq_false (or_f (or_f hc49).1).2
        have p54 := of_decide_eq_false (or_f hc49).2
        obtain ⟨hg1, hg2, hg3⟩ := Wr.back_good hc49
        refine wp_skip ?_
        refine hK47 _ _ ?_
        -- ref.go:77
        refine wp_region_lit ?_
        refine L (r_mv Hz rfl) Hz rfl ?_
        clear Hz az; intro az Hz
        refine L (r_mulW Hz rfl rfl) Hz rfl ?_
        clear Hz az; intro az Hz
        refine L (r_mv Hz rfl) Hz rfl ?_
        clear Hz az; intro az Hz
        refine L (r_mv Hz rfl) Hz rfl ?_
        clear Hz az; intro az Hz
        refine L (r_ixD (k := i) Tryz.underlying9 Hz rfl rfl rfl (by omega)) Hz rfl ?_
        clear Hz az; intro az Hz
        refine L (r_subU Hz rfl rfl (by omega)) Hz rfl ?_
        clear Hz az; intro az Hz
        refine L (r_cvJ Tryz.underlying5 Tryz.underlying3 Hz rfl (by omega)) Hz rfl ?_
        clear Hz az; intro az Hz
        refine L (r_subW Hz rfl rfl) Hz rfl ?_
        clear Hz az; intro az Hz
        refine L (r_as Hz rfl) Hz rfl ?_
        clear Hz az; intro az Hz
        refine hK46 _ _ ?_
        -- ref.go:73
        refine wp_region_lit ?_
        refine L (r_mv Hz rfl) Hz rfl ?_
        clear Hz az; intro az Hz
        have i55 : I64 (((i : Int) + 1)) := by unfold I64; omega
        refine L (r_addI (r := ((i : Int) + 1)) Hz rfl rfl rfl i55) Hz rfl ?_
        clear Hz az; intro az Hz
        refine L (r_as Hz rfl) Hz rfl ?_
        clear Hz az; intro az Hz
        exact ⟨_, (by omega), i + 1, Wr.bstep N (List.getD p i 0), rfl, Hz.cut ⟨rfl, rfl, rfl, rfl, trivial⟩, (by omega), (by omega), (Wr.wrap_ok _), (Wr.fold_next hi1 (by omega) hN), o40⟩
    · -- else1
      have p56 := of_decide_eq_false hc44
      refine wp_exit ?_
      refine th_exit ?_
      refine th_exit ?_
      refine ib_hit ?_
      refine hK37 _ _ ?_
      refine wp_seq_k fun K57 hK57 => ?_
      refine wp_seq_k fun K58 hK58 => ?_
      -- ref.go:79
      refine wp_region_lit ?_
      refine L (r_mv Hz rfl) Hz rfl ?_
      clear Hz az; intro az Hz
      refine L (r_eqL (b := true) Hz rfl rfl (by decide)) Hz rfl ?_
      clear Hz az; intro az Hz
      refine hK58 _ _ ?_
      refine br_true Hz rfl ?_
      -- ref.go:80
      refine wp_region_lit ?_
      refine L (r_mv Hz rfl) Hz rfl ?_
      clear Hz az; intro az Hz
      refine L (r_negW Hz rfl) Hz rfl ?_
      clear Hz az; intro az Hz
      refine L (r_as Hz rfl) Hz rfl ?_
      clear Hz az; intro az Hz
      refine hK57 _ _ ?_
      refine wp_seq_k fun K59 hK59 => ?_
      -- ref.go:82
      refine wp_region_lit ?_
      refine L (r_mv Hz rfl) Hz rfl ?_
      clear Hz az; intro az Hz
      refine L (r_mv Hz rfl) Hz rfl ?_
      clear Hz az; intro az Hz
      refine LCV (v := strV (Wr.intE (IntKind.i64.wrap (-N)))) Hz rfl rfl Tryz.call82 (vInt_v _ (IntKind.i64.wrap (-N)) (Wr.wrap_ok _)) rfl fun w60 o61 => ?_
      clear Hz az; intro az Hz
      refine L (r_mv Hz rfl) Hz rfl ?_
      clear Hz az; intro az Hz
      refine L (r_addS Hz rfl rfl (by (try simp only [List.length_append, List.length_cons, List.length_nil]); omega)) Hz rfl ?_
      clear Hz az; intro az Hz
      refine L (r_eqS Hz rfl rfl) Hz rfl ?_
      clear Hz az; intro az Hz
      refine L (r_as Hz rfl) Hz rfl ?_
      clear Hz az; intro az Hz
      refine L (r_as Hz rfl) Hz rfl ?_
      clear Hz az; intro az Hz
      refine hK59 _ _ ?_
      refine wp_ret ?_
      show bodyPost _ _ _ .ret _ _
      refine ret_of (vs := [.int .i64 ((IntKind.i64.wrap (-N))), .bool (decide (Wr.intE (IntKind.i64.wrap (-N)) = p ++ [59]))]) Hz Tryz.results94 ⟨rfl, rfl, trivial⟩ ?_
      have O62 : Only NoF w w60 := (Only.trans' o40 o61)
      exact ⟨_, _, rfl, (Wr.wrap_ok _), (fun h => Wr.back_yes (Wr.wrap_ok _) h), (fun h => Wr.back_no0 hF (by omega) hN h), O62⟩

set_option maxRecDepth 20000 in
set_option maxHeartbeats 4000000 in
theorem vfail_v {w : World} {g : Nat} {s : Wr.Rd} (hB : Blk w g 94 [strV s.r, .bool s.b].toArray)  : Calls Tryz.prog 77 [.pointer (some ⟨g, 0, none⟩)].toArray w (VTo g (.int .i64 0) Wr.failed w) := by
  refine calls_start Tryz.func77 rfl rfl ?_
  intro az Hz
  rw [Tryz.ntmps77] at Hz
  refine wp_seq_k fun K1 hK1 => ?_
  -- ref.go:60
  refine wp_region_lit ?_
  refine L (r_as Hz rfl) Hz rfl ?_
  clear Hz az; intro az Hz
  refine hK1 _ _ ?_
  refine wp_seq_k fun K2 hK2 => ?_
  -- ref.go:61
  refine wp_region_lit ?_
  refine L (r_mv Hz rfl) Hz rfl ?_
  clear Hz az; intro az Hz
  refine L (r_nilP Hz rfl) Hz rfl ?_
  clear Hz az; intro az Hz
  refine L (r_fa (m' := 0) Tryz.underlying94 rfl Tryz.sizeOf9 rfl Hz rfl rfl) Hz rfl ?_
  clear Hz az; intro az Hz
  refine LSt (cs' := [strV ([]), .bool (s.b)]) Tryz.sizeOf9 Hz rfl rfl rfl rfl rfl ⟨rfl, trivial⟩ hB rfl rfl fun w3 s4 B5 => ?_
  refine hK2 _ _ ?_
  refine wp_seq_k fun K6 hK6 => ?_
  -- ref.go:62
  refine wp_region_lit ?_
  refine L (r_mv Hz rfl) Hz rfl ?_
  clear Hz az; intro az Hz
  refine L (r_nilP Hz rfl) Hz rfl ?_
  clear Hz az; intro az Hz
  refine L (r_fa (m' := 1) Tryz.underlying94 rfl Tryz.sizeOf4 rfl Hz rfl rfl) Hz rfl ?_
  clear Hz az; intro az Hz
  refine LSt (cs' := [strV ([]), .bool (true)]) Tryz.sizeOf4 Hz rfl rfl rfl rfl rfl ⟨rfl, trivial⟩ B5 rfl rfl fun w7 s8 B9 => ?_
  refine hK6 _ _ ?_
  refine wp_seq_k fun K10 hK10 => ?_
  -- ref.go:63
  refine wp_region_lit ?_
  refine L (r_as Hz rfl) Hz rfl ?_
  clear Hz az; intro az Hz
  refine hK10 _ _ ?_
  refine wp_ret ?_
  show bodyPost _ _ _ .ret _ _
  refine ret_of (vs := [.int .i64 (0)]) Hz Tryz.results77 ⟨rfl, trivial⟩ ?_
  exact ⟨rfl, B9, (Only.trans (Only.trans (Only.refl (oneF g) w) s4 (fun _ h => .inl h)) s8 (fun _ h => .inl h))⟩

set_option maxRecDepth 20000 in
set_option maxHeartbeats 4000000 in
theorem vclose_v {w : World} {g : Nat} {s : Wr.Rd} (hB : Blk w g 94 [strV s.r, .bool s.b].toArray) (c : UInt8) {z : Int} (hk : z = (c.toNat : Int)) : Calls Tryz.prog 78 [.pointer (some ⟨g, 0, none⟩), .int .u8 z].toArray w (VTo g (.bool (Wr.closeB s c)) (Wr.close s c) w) := by
  subst hk
  refine calls_start Tryz.func78 rfl rfl ?_
  intro az Hz
  rw [Tryz.ntmps78] at Hz
  refine wp_seq_k fun K1 hK1 => ?_
  -- ref.go:121
  refine wp_region_lit ?_
  refine L (r_as Hz rfl) Hz rfl ?_
  clear Hz az; intro az Hz
  refine hK1 _ _ ?_
  refine wp_seq_k fun K2 hK2 => ?_
  refine wp_seq_k fun K3 hK3 => ?_
  -- ref.go:122
  refine wp_region_lit ?_
  refine L (r_mv Hz rfl) Hz rfl ?_
  clear Hz az; intro az Hz
  refine L (r_nilP Hz rfl) Hz rfl ?_
  clear Hz az; intro az Hz
  refine L (r_fa (m' := 0) Tryz.underlying94 rfl Tryz.sizeOf9 rfl Hz rfl rfl) Hz rfl ?_
  clear Hz az; intro az Hz
  refine L (r_ld Tryz.isAgg9 Hz rfl ((Blk.ca hB) 0 _ rfl)) Hz rfl ?_
  clear Hz az; intro az Hz
  refine L (r_lenS Tryz.underlying9 Hz rfl) Hz rfl ?_
  clear Hz az; intro az Hz
  refine L (r_eqI Hz rfl rfl) Hz rfl ?_
  clear Hz az; intro az Hz
  refine hK3 _ _ ?_
  refine br Hz rfl (fun hc4 => ?_) (fun hc4 => ?_)
  · -- if0
    have p5 := of_decide_eq_true hc4
    refine wp_seq_k fun K6 hK6 => ?_
    -- ref.go:123
    refine wp_region_lit ?_
    refine L (r_mv Hz rfl) Hz rfl ?_
    clear Hz az; intro az Hz
    refine LC Hz rfl rfl Tryz.call77 (vfail_v (s := s) hB) rfl ?_
    rintro e w7 ⟨rfl, B8, o9⟩; refine ⟨_, rfl, ?_⟩
    clear Hz az; intro az Hz
    refine hK6 _ _ ?_
    refine wp_seq_k fun K10 hK10 => ?_
    -- ref.go:124
    refine wp_region_lit ?_
    refine L (r_as Hz rfl) Hz rfl ?_
    clear Hz az; intro az Hz
    refine hK10 _ _ ?_
    refine wp_ret ?_
    show bodyPost _ _ _ .ret _ _
    refine ret_of (vs := [.bool (false)]) Hz Tryz.results78 ⟨rfl, trivial⟩ ?_
    obtain ⟨hx1, hx2⟩ := Wr.close_nil (c := c) hc4
    rw [hx1, hx2]
    exact ⟨rfl, B8, (Only.trans (Only.refl (oneF g) w) o9 (fun _ h => .inl h))⟩
  · -- else0
    have p11 := of_decide_eq_false hc4
    refine wp_skip ?_
    refine hK2 _ _ ?_
    refine wp_seq_k fun K12 hK12 => ?_
    refine wp_seq_k fun K13 hK13 => ?_
    -- ref.go:126
    refine wp_region_lit ?_
    refine L (r_mv Hz rfl) Hz rfl ?_
    clear Hz az; intro az Hz
    refine L (r_nilP Hz rfl) Hz rfl ?_
    clear Hz az; intro az Hz
    refine L (r_fa (m' := 0) Tryz.underlying94 rfl Tryz.sizeOf9 rfl Hz rfl rfl) Hz rfl ?_
    clear Hz az; intro az Hz
    refine L (r_ld Tryz.isAgg9 Hz rfl ((Blk.ca hB) 0 _ rfl)) Hz rfl ?_
    clear Hz az; intro az Hz
    refine L (r_ixD (k := 0) Tryz.underlying9 Hz rfl rfl rfl (by omega)) Hz rfl ?_
    clear Hz az; intro az Hz
    refine L (r_mv Hz rfl) Hz rfl ?_
    clear Hz az; intro az Hz
    refine L (r_neI Hz rfl rfl) Hz rfl ?_
    clear Hz az; intro az Hz
    refine hK13 _ _ ?_
    refine br Hz rfl (fun hc14 => ?_) (fun hc14 => ?_)
    · -- if1
      have p15 := of_decide_eq_false (nt_t hc14)
      refine wp_seq_k fun K16 hK16 => ?_
      -- ref.go:127
      refine wp_region_lit ?_
      refine L (r_mv Hz rfl) Hz rfl ?_
      clear Hz az; intro az Hz
      refine LC Hz rfl rfl Tryz.call77 (vfail_v (s := s) hB) rfl ?_
      rintro e w17 ⟨rfl, B18, o19⟩; refine ⟨_, rfl, ?_⟩
      clear Hz az; intro az Hz
      refine hK16 _ _ ?_
      refine wp_seq_k fun K20 hK20 => ?_
      -- ref.go:128
      refine wp_region_lit ?_
      refine L (r_as Hz rfl) Hz rfl ?_
      clear Hz az; intro az Hz
      refine hK20 _ _ ?_
      refine wp_ret ?_
      show bodyPost _ _ _ .ret _ _
      refine ret_of (vs := [.bool (false)]) Hz Tryz.results78 ⟨rfl, trivial⟩ ?_
      obtain ⟨hx1, hx2⟩ := Wr.close_ne hc4 hc14
      rw [hx1, hx2]
      exact ⟨rfl, B18, (Only.trans (Only.refl (oneF g) w) o19 (fun _ h => .inl h))⟩
    · -- else1
      have p21 := of_decide_eq_true (nt_f hc14)
      refine wp_skip ?_
      refine hK12 _ _ ?_
      refine wp_seq_k fun K22 hK22 => ?_
      -- ref.go:130
      refine wp_region_lit ?_
      refine L (r_mv Hz rfl) Hz rfl ?_
      clear Hz az; intro az Hz
      refine L (r_mv Hz rfl) Hz rfl ?_
      clear Hz az; intro az Hz
      refine L (r_nilP Hz rfl) Hz rfl ?_
      clear Hz az; intro az Hz
      refine L (r_fa (m' := 0) Tryz.underlying94 rfl Tryz.sizeOf9 rfl Hz rfl rfl) Hz rfl ?_
      clear Hz az; intro az Hz
      refine L (r_ld Tryz.isAgg9 Hz rfl ((Blk.ca hB) 0 _ rfl)) Hz rfl ?_
      clear Hz az; intro az Hz
      have le23 : 1 ≤ List.length (s.r) := by omega
      refine L (r_ssl (lo := 1) Tryz.underlying9 Hz rfl rfl rfl le23) Hz rfl ?_
      clear Hz az; intro az Hz
      refine L (r_nilP Hz rfl) Hz rfl ?_
      clear Hz az; intro az Hz
      refine L (r_fa (m' := 0) Tryz.underlying94 rfl Tryz.sizeOf9 rfl Hz rfl rfl) Hz rfl ?_
      clear Hz az; intro az Hz
      refine LSt (cs' := [strV (List.drop 1 s.r), .bool (s.b)]) Tryz.sizeOf9 Hz rfl rfl rfl rfl rfl ⟨rfl, trivial⟩ hB rfl rfl fun w24 s25 B26 => ?_
      refine hK22 _ _ ?_
      refine wp_seq_k fun K27 hK27 => ?_
      -- ref.go:131
      refine wp_region_lit ?_
      refine L (r_as Hz rfl) Hz rfl ?_
      clear Hz az; intro az Hz
      refine hK27 _ _ ?_
      refine wp_ret ?_
      show bodyPost _ _ _ .ret _ _
      refine ret_of (vs := [.bool (true)]) Hz Tryz.results78 ⟨rfl, trivial⟩ ?_
      obtain ⟨hx1, hx2⟩ := Wr.close_eq1 hc4 hc14
      rw [hx1, hx2]
      exact ⟨rfl, B26, (Only.trans (Only.refl (oneF g) w) s25 (fun _ h => .inl h))⟩

set_option maxRecDepth 20000 in
set_option maxHeartbeats 4000000 in
theorem vahead_v {w : World} {g : Nat} {s : Wr.Rd} (hB : Blk w g 94 [strV s.r, .bool s.b].toArray) (e : UInt8) {z : Int} (hk : z = (e.toNat : Int)) : Calls Tryz.prog 88 [.pointer (some ⟨g, 0, none⟩), .int .u8 z].toArray w (VTo g (.int .i64 (Wr.number s e Wr.Min).1) (Wr.number s e Wr.Min).2 w) := by
  subst hk
  refine calls_start Tryz.func88 rfl rfl ?_
  intro az Hz
  rw [Tryz.ntmps88] at Hz
  refine wp_seq_k fun K1 hK1 => ?_
  -- ref.go:86
  refine wp_region_lit ?_
  refine L (r_as Hz rfl) Hz rfl ?_
  clear Hz az; intro az Hz
  refine hK1 _ _ ?_
  refine wp_seq_k fun K2 hK2 => ?_
  -- ref.go:87
  refine wp_region_lit ?_
  refine L (r_as Hz rfl) Hz rfl ?_
  clear Hz az; intro az Hz
  refine hK2 _ _ ?_
  refine wp_seq_k fun K3 hK3 => ?_
  refine wp_block ?_
  refine wp_loop_m (fun mz az W => ∃ k : Nat, mz = s.r.length - k ∧ Fr 75 [(0, .pointer (some ((⟨g, 0, none⟩ : Addr)))), (1, .int .u8 (((e.toNat : Nat) : Int))), (5, .int .i64 ((k : Int)))] az ∧ (k ≤ s.r.length) ∧ (k ≤ 21) ∧ (Wr.NoE s.r e k) ∧ Only NoF w W) ?_ ?_
  · -- start
    exact ⟨_, 0, rfl, Hz.cut ⟨rfl, rfl, rfl, trivial⟩, (Nat.zero_le _), (Nat.zero_le _), (fun c h => by simp at h), (Only.refl NoF w)⟩
  clear Hz az
  rintro mz az w4 ⟨k, hm6, Hz, hk1, hk2, hne, o5⟩
  refine wp_seq_k fun K7 hK7 => ?_
  refine wp_seq_k fun K8 hK8 => ?_
  -- ref.go:88
  refine wp_region_lit ?_
  refine L (r_mv Hz rfl) Hz rfl ?_
  clear Hz az; intro az Hz
  refine L (r_mv Hz rfl) Hz rfl ?_
  clear Hz az; intro az Hz
  refine L (r_nilP Hz rfl) Hz rfl ?_
  clear Hz az; intro az Hz
  refine L (r_fa (m' := 0) Tryz.underlying94 rfl Tryz.sizeOf9 rfl Hz rfl rfl) Hz rfl ?_
  clear Hz az; intro az Hz
  have B9 := (Blk.k hB o5)
  refine L (r_ld Tryz.isAgg9 Hz rfl ((Blk.ca B9) 0 _ rfl)) Hz rfl ?_
  clear Hz az; intro az Hz
  refine L (r_lenS Tryz.underlying9 Hz rfl) Hz rfl ?_
  clear Hz az; intro az Hz
  refine L (r_ltI Hz rfl rfl) Hz rfl ?_
  clear Hz az; intro az Hz
  refine L (r_mv Hz rfl) Hz rfl ?_
  clear Hz az; intro az Hz
  refine LG Hz rfl rfl gd_t (fun hb => r_mv Hz rfl) rfl ?_
  clear Hz az; intro az Hz
  refine LG Hz rfl rfl gd_t (fun hb => r_ltI Hz (evg hb rfl) rfl) rfl ?_
  clear Hz az; intro az Hz
  refine L (r_and Hz rfl rfl rfl) Hz rfl ?_
  clear Hz az; intro az Hz
  refine L (r_mv Hz rfl) Hz rfl ?_
  clear Hz az; intro az Hz
  refine LG Hz rfl rfl gd_t (fun hb => r_mv Hz rfl) rfl ?_
  clear Hz az; intro az Hz
  refine LG Hz rfl rfl gd_t (fun hb => r_nilP Hz (evg hb rfl)) rfl ?_
  clear Hz az; intro az Hz
  refine LG Hz rfl rfl gd_t (fun hb => r_fa (m' := 0) Tryz.underlying94 rfl Tryz.sizeOf9 rfl Hz (evg hb rfl) rfl) rfl ?_
  clear Hz az; intro az Hz
  refine LG Hz rfl rfl gd_t (fun hb => r_ld Tryz.isAgg9 Hz (evg hb rfl) ((Blk.ca B9) 0 _ rfl)) rfl ?_
  clear Hz az; intro az Hz
  refine LG Hz rfl rfl gd_t (fun hb => r_mv Hz rfl) rfl ?_
  clear Hz az; intro az Hz
  refine LG Hz rfl rfl gd_t (fun hb => r_ixD (k := k) Tryz.underlying9 Hz (evg hb rfl) (evg hb rfl) rfl (ixb hb)) rfl ?_
  clear Hz az; intro az Hz
  refine LG Hz rfl rfl gd_t (fun hb => r_mv Hz rfl) rfl ?_
  clear Hz az; intro az Hz
  refine LG Hz rfl rfl gd_t (fun hb => r_neI Hz (evg hb rfl) (evg hb rfl)) rfl ?_
  clear Hz az; intro az Hz
  refine L (r_and Hz rfl rfl rfl) Hz rfl ?_
  clear Hz az; intro az Hz
  refine hK8 _ _ ?_
  refine br Hz rfl (fun hc10 => ?_) (fun hc10 => ?_)
  · -- if0
    have p11 := of_decide_eq_true (and_t (and_t hc10).1).1
    have p12 := of_decide_eq_true (and_t (and_t hc10).1).2
    have p13 := of_decide_eq_false (nt_t (and_t hc10).2)
    refine wp_skip ?_
    refine hK7 _ _ ?_
    refine wp_block ?_
    -- ref.go:89
    refine wp_region_lit ?_
    refine L (r_mv Hz rfl) Hz rfl ?_
    clear Hz az; intro az Hz
    have i14 : I64 (((k : Int) + 1)) := by unfold I64; omega
    refine L (r_addI (r := ((k : Int) + 1)) Hz rfl rfl rfl i14) Hz rfl ?_
    clear Hz az; intro az Hz
    refine L (r_as Hz rfl) Hz rfl ?_
    clear Hz az; intro az Hz
    exact ⟨_, (by omega), k + 1, rfl, Hz.cut ⟨rfl, rfl, rfl, trivial⟩, (by omega), (by omega), (Wr.noE_next hne (by omega) hc10), o5⟩
  · -- else0
    have d15 := hc10
    refine wp_exit ?_
    refine th_exit ?_
    refine th_exit ?_
    refine ib_hit ?_
    refine hK3 _ _ ?_
    refine wp_seq_k fun K16 hK16 => ?_
    refine wp_seq_k fun K17 hK17 => ?_
    -- ref.go:91
    refine wp_region_lit ?_
    refine L (r_mv Hz rfl) Hz rfl ?_
    clear Hz az; intro az Hz
    refine L (r_mv Hz rfl) Hz rfl ?_
    clear Hz az; intro az Hz
    refine L (r_nilP Hz rfl) Hz rfl ?_
    clear Hz az; intro az Hz
    refine L (r_fa (m' := 0) Tryz.underlying94 rfl Tryz.sizeOf9 rfl Hz rfl rfl) Hz rfl ?_
    clear Hz az; intro az Hz
    refine L (r_ld Tryz.isAgg9 Hz rfl ((Blk.ca B9) 0 _ rfl)) Hz rfl ?_
    clear Hz az; intro az Hz
    refine L (r_lenS Tryz.underlying9 Hz rfl) Hz rfl ?_
    clear Hz az; intro az Hz
    refine L (r_geI Hz rfl rfl) Hz rfl ?_
    clear Hz az; intro az Hz
    refine hK17 _ _ ?_
    refine br Hz rfl (fun hc18 => ?_) (fun hc18 => ?_)
    · -- if1
      have p19 := of_decide_eq_true hc18
      refine wp_seq_k fun K20 hK20 => ?_
      -- ref.go:92
      refine wp_region_lit ?_
      refine L (r_mv Hz rfl) Hz rfl ?_
      clear Hz az; intro az Hz
      refine LC Hz rfl rfl Tryz.call77 (vfail_v (s := s) B9) rfl ?_
      rintro e w21 ⟨rfl, B22, o23⟩; refine ⟨_, rfl, ?_⟩
      clear Hz az; intro az Hz
      refine L (r_as Hz rfl) Hz rfl ?_
      clear Hz az; intro az Hz
      refine hK20 _ _ ?_
      refine wp_ret ?_
      show bodyPost _ _ _ .ret _ _
      refine ret_of (vs := [.int .i64 (0)]) Hz Tryz.results88 ⟨rfl, trivial⟩ ?_
      rw [Wr.ah_end hne hk1 hc18]
      exact ⟨rfl, B22, (Only.trans (Only.trans (Only.refl (oneF g) w) o5 (fun _ h => h.elim)) o23 (fun _ h => .inl h))⟩
    · -- else1
      have p24 := of_decide_eq_false hc18
      refine wp_skip ?_
      refine hK16 _ _ ?_
      refine wp_seq_k fun K25 hK25 => ?_
      refine wp_seq_k fun K26 hK26 => ?_
      -- ref.go:94
      refine wp_region_lit ?_
      refine L (r_mv Hz rfl) Hz rfl ?_
      clear Hz az; intro az Hz
      refine L (r_nilP Hz rfl) Hz rfl ?_
      clear Hz az; intro az Hz
      refine L (r_fa (m' := 0) Tryz.underlying94 rfl Tryz.sizeOf9 rfl Hz rfl rfl) Hz rfl ?_
      clear Hz az; intro az Hz
      refine L (r_ld Tryz.isAgg9 Hz rfl ((Blk.ca B9) 0 _ rfl)) Hz rfl ?_
      clear Hz az; intro az Hz
      refine L (r_mv Hz rfl) Hz rfl ?_
      clear Hz az; intro az Hz
      refine L (r_ixD (k := k) Tryz.underlying9 Hz rfl rfl rfl (by omega)) Hz rfl ?_
      clear Hz az; intro az Hz
      refine L (r_mv Hz rfl) Hz rfl ?_
      clear Hz az; intro az Hz
      refine L (r_neI Hz rfl rfl) Hz rfl ?_
      clear Hz az; intro az Hz
      refine hK26 _ _ ?_
      refine br Hz rfl (fun hc27 => ?_) (fun hc27 => ?_)
      · -- if2
        have p28 := of_decide_eq_false (nt_t hc27)
        refine wp_seq_k fun K29 hK29 => ?_
        -- ref.go:95
        refine wp_region_lit ?_
        refine L (r_mv Hz rfl) Hz rfl ?_
        clear Hz az; intro az Hz
        refine LC Hz rfl rfl Tryz.call77 (vfail_v (s := s) B9) rfl ?_
        rintro e w30 ⟨rfl, B31, o32⟩; refine ⟨_, rfl, ?_⟩
        clear Hz az; intro az Hz
        refine L (r_as Hz rfl) Hz rfl ?_
        clear Hz az; intro az Hz
        refine hK29 _ _ ?_
        refine wp_ret ?_
        show bodyPost _ _ _ .ret _ _
        refine ret_of (vs := [.int .i64 (0)]) Hz Tryz.results88 ⟨rfl, trivial⟩ ?_
        rw [Wr.ah_cut hne (by omega) hc10 hc27]
        exact ⟨rfl, B31, (Only.trans (Only.trans (Only.refl (oneF g) w) o5 (fun _ h => h.elim)) o32 (fun _ h => .inl h))⟩
      · -- else2
        have p33 := of_decide_eq_true (nt_f hc27)
        refine wp_skip ?_
        refine hK25 _ _ ?_
        refine wp_seq_k fun K34 hK34 => ?_
        -- ref.go:97
        refine wp_region_lit ?_
        refine L (r_mv Hz rfl) Hz rfl ?_
        clear Hz az; intro az Hz
        refine L (r_nilP Hz rfl) Hz rfl ?_
        clear Hz az; intro az Hz
        refine L (r_fa (m' := 0) Tryz.underlying94 rfl Tryz.sizeOf9 rfl Hz rfl rfl) Hz rfl ?_
        clear Hz az; intro az Hz
        refine L (r_ld Tryz.isAgg9 Hz rfl ((Blk.ca B9) 0 _ rfl)) Hz rfl ?_
        clear Hz az; intro az Hz
        refine L (r_mv Hz rfl) Hz rfl ?_
        clear Hz az; intro az Hz
        have le35 : k ≤ List.length (s.r) := by omega
        refine L (r_ssh (m := k) Tryz.underlying9 Hz rfl rfl rfl le35) Hz rfl ?_
        clear Hz az; intro az Hz
        have hln : List.length (List.take k s.r) ≤ 1000000000 := by simp only [List.length_take]; omega
        refine LC Hz rfl rfl Tryz.call94 (vback_v _ (List.take k s.r) hln) rfl ?_
        rintro e w42 ⟨n36, b37, rfl, hn38, hy39, hn40, o41⟩; refine ⟨_, rfl, ?_⟩
        clear Hz az; intro az Hz
        refine L (r_mv Hz rfl) Hz rfl ?_
        clear Hz az; intro az Hz
        refine L (r_ex Hz rfl rfl) Hz rfl ?_
        clear Hz az; intro az Hz
        refine L (r_ex Hz rfl rfl) Hz rfl ?_
        clear Hz az; intro az Hz
        refine L (r_as Hz rfl) Hz rfl ?_
        clear Hz az; intro az Hz
        refine L (r_as Hz rfl) Hz rfl ?_
        clear Hz az; intro az Hz
        refine hK34 _ _ ?_
        refine wp_seq_k fun K43 hK43 => ?_
        refine wp_seq_k fun K44 hK44 => ?_
        -- ref.go:98
        refine wp_region_lit ?_
        refine L (r_mv Hz rfl) Hz rfl ?_
        clear Hz az; intro az Hz
        refine L (r_not Hz rfl) Hz rfl ?_
        clear Hz az; intro az Hz
        refine hK44 _ _ ?_
        refine br Hz rfl (fun hc45 => ?_) (fun hc45 => ?_)
        · -- if3
          have q46 : b37 = false := (nt_t hc45)
          refine wp_seq_k fun K47 hK47 => ?_
          -- ref.go:99
          refine wp_region_lit ?_
          refine L (r_mv Hz rfl) Hz rfl ?_
          clear Hz az; intro az Hz
          have B48 := (Blk.k B9 o41)
          refine LC Hz rfl rfl Tryz.call77 (vfail_v (s := s) B48) rfl ?_
          rintro e w49 ⟨rfl, B50, o51⟩; refine ⟨_, rfl, ?_⟩
          clear Hz az; intro az Hz
          refine L (r_as Hz rfl) Hz rfl ?_
          clear Hz az; intro az Hz
          refine hK47 _ _ ?_
          refine wp_ret ?_
          show bodyPost _ _ _ .ret _ _
          refine ret_of (vs := [.int .i64 (0)]) Hz Tryz.results88 ⟨rfl, trivial⟩ ?_
          rw [Wr.ah_bad hne (by omega) hc27 (hn40 (nt_t hc45))]
          exact ⟨rfl, B50, (Only.trans (Only.trans (Only.trans (Only.refl (oneF g) w) o5 (fun _ h => h.elim)) o41 (fun _ h => h.elim)) o51 (fun _ h => .inl h))⟩
        · -- else3
          have q52 : b37 = true := (nt_f hc45)
          refine wp_skip ?_
          refine hK43 _ _ ?_
          refine wp_seq_k fun K53 hK53 => ?_
          -- ref.go:101
          refine wp_region_lit ?_
          refine L (r_mv Hz rfl) Hz rfl ?_
          clear Hz az; intro az Hz
          refine L (r_mv Hz rfl) Hz rfl ?_
          clear Hz az; intro az Hz
          refine L (r_nilP Hz rfl) Hz rfl ?_
          clear Hz az; intro az Hz
          refine L (r_fa (m' := 0) Tryz.underlying94 rfl Tryz.sizeOf9 rfl Hz rfl rfl) Hz rfl ?_
          clear Hz az; intro az Hz
          have B54 := (Blk.k B9 o41)
          refine L (r_ld Tryz.isAgg9 Hz rfl ((Blk.ca B54) 0 _ rfl)) Hz rfl ?_
          clear Hz az; intro az Hz
          refine L (r_mv Hz rfl) Hz rfl ?_
          clear Hz az; intro az Hz
          have i55 : I64 (((k : Int) + 1)) := by unfold I64; omega
          refine L (r_addI (r := ((k : Int) + 1)) Hz rfl rfl rfl i55) Hz rfl ?_
          clear Hz az; intro az Hz
          have le56 : (k + 1) ≤ List.length (s.r) := by omega
          refine L (r_ssl (lo := (k + 1)) Tryz.underlying9 Hz rfl rfl (by omega) le56) Hz rfl ?_
          clear Hz az; intro az Hz
          refine L (r_nilP Hz rfl) Hz rfl ?_
          clear Hz az; intro az Hz
          refine L (r_fa (m' := 0) Tryz.underlying94 rfl Tryz.sizeOf9 rfl Hz rfl rfl) Hz rfl ?_
          clear Hz az; intro az Hz
          refine LSt (cs' := [strV (List.drop (k + 1) s.r), .bool (s.b)]) Tryz.sizeOf9 Hz rfl rfl rfl rfl rfl ⟨rfl, trivial⟩ B54 rfl rfl fun w57 s58 B59 => ?_
          refine hK53 _ _ ?_
          refine wp_seq_k fun K60 hK60 => ?_
          -- ref.go:102
          refine wp_region_lit ?_
          refine L (r_mv Hz rfl) Hz rfl ?_
          clear Hz az; intro az Hz
          refine L (r_as Hz rfl) Hz rfl ?_
          clear Hz az; intro az Hz
          refine hK60 _ _ ?_
          refine wp_ret ?_
          show bodyPost _ _ _ .ret _ _
          refine ret_of (vs := [.int .i64 (n36)]) Hz Tryz.results88 ⟨rfl, trivial⟩ ?_
          rw [Wr.ah_ok hne (by omega) hc27 (hy39 (nt_f hc45))]
          exact ⟨rfl, B59, (Only.trans (Only.trans (Only.trans (Only.refl (oneF g) w) o5 (fun _ h => h.elim)) o41 (fun _ h => h.elim)) s58 (fun _ h => .inl h))⟩

set_option maxRecDepth 20000 in
set_option maxHeartbeats 4000000 in
theorem vnumber_v {w : World} {g : Nat} {s : Wr.Rd} (hB : Blk w g 94 [strV s.r, .bool s.b].toArray) (e : UInt8) {z : Int} (hk : z = (e.toNat : Int)) : Calls Tryz.prog 76 [.pointer (some ⟨g, 0, none⟩), .int .u8 z].toArray w (VTo g (.int .i64 (Wr.number s e 0).1) (Wr.number s e 0).2 w) := by
  refine calls_start Tryz.func76 rfl rfl ?_
  intro az Hz
  rw [Tryz.ntmps76] at Hz
  refine wp_seq_k fun K1 hK1 => ?_
  -- ref.go:106
  refine wp_region_lit ?_
  refine L (r_as Hz rfl) Hz rfl ?_
  clear Hz az; intro az Hz
  refine hK1 _ _ ?_
  refine wp_seq_k fun K2 hK2 => ?_
  -- ref.go:107
  refine wp_region_lit ?_
  refine L (r_mv Hz rfl) Hz rfl ?_
  clear Hz az; intro az Hz
  refine L (r_mv Hz rfl) Hz rfl ?_
  clear Hz az; intro az Hz
  refine LC Hz rfl rfl Tryz.call88 (vahead_v (s := s) hB e hk) rfl ?_
  rintro e w3 ⟨rfl, B4, o5⟩; refine ⟨_, rfl, ?_⟩
  clear Hz az; intro az Hz
  refine L (r_as Hz rfl) Hz rfl ?_
  clear Hz az; intro az Hz
  refine hK2 _ _ ?_
  refine wp_seq_k fun K6 hK6 => ?_
  refine wp_seq_k fun K7 hK7 => ?_
  -- ref.go:108
  refine wp_region_lit ?_
  refine L (r_mv Hz rfl) Hz rfl ?_
  clear Hz az; intro az Hz
  refine L (r_ltI Hz rfl rfl) Hz rfl ?_
  clear Hz az; intro az Hz
  refine hK7 _ _ ?_
  refine br Hz rfl (fun hc8 => ?_) (fun hc8 => ?_)
  · -- if0
    have p9 := of_decide_eq_true hc8
    refine wp_seq_k fun K10 hK10 => ?_
    -- ref.go:109
    refine wp_region_lit ?_
    refine L (r_mv Hz rfl) Hz rfl ?_
    clear Hz az; intro az Hz
    refine LC Hz rfl rfl Tryz.call77 (vfail_v (s := (Wr.number s e Wr.Min).2) B4) rfl ?_
    rintro e w11 ⟨rfl, B12, o13⟩; refine ⟨_, rfl, ?_⟩
    clear Hz az; intro az Hz
    refine L (r_as Hz rfl) Hz rfl ?_
    clear Hz az; intro az Hz
    refine hK10 _ _ ?_
    refine wp_ret ?_
    show bodyPost _ _ _ .ret _ _
    refine ret_of (vs := [.int .i64 (0)]) Hz Tryz.results76 ⟨rfl, trivial⟩ ?_
    rw [Wr.num_neg (of_decide_eq_true hc8)]
    exact ⟨rfl, B12, (Only.trans (Only.trans (Only.refl (oneF g) w) o5 (fun _ h => .inl h)) o13 (fun _ h => .inl h))⟩
  · -- else0
    have p14 := of_decide_eq_false hc8
    refine wp_skip ?_
    refine hK6 _ _ ?_
    refine wp_seq_k fun K15 hK15 => ?_
    -- ref.go:111
    refine wp_region_lit ?_
    refine L (r_mv Hz rfl) Hz rfl ?_
    clear Hz az; intro az Hz
    refine L (r_as Hz rfl) Hz rfl ?_
    clear Hz az; intro az Hz
    refine hK15 _ _ ?_
    refine wp_ret ?_
    show bodyPost _ _ _ .ret _ _
    refine ret_of (vs := [.int .i64 ((Wr.number s e Wr.Min).1)]) Hz Tryz.results76 ⟨rfl, trivial⟩ ?_
    rw [Wr.num_pos (of_decide_eq_false hc8)]
    exact ⟨rfl, B4, (Only.trans (Only.refl (oneF g) w) o5 (fun _ h => .inl h))⟩

set_option maxRecDepth 20000 in
set_option maxHeartbeats 4000000 in
theorem vrNum_v {w : World} {g : Nat} {s : Wr.Rd} (hB : Blk w g 94 [strV s.r, .bool s.b].toArray)  : Calls Tryz.prog 60 [.pointer (some ⟨g, 0, none⟩)].toArray w (VTo g (.int .i64 (Wr.num s).1) (Wr.num s).2 w) := by
  refine calls_start Tryz.func60 rfl rfl ?_
  intro az Hz
  rw [Tryz.ntmps60] at Hz
  refine wp_seq_k fun K1 hK1 => ?_
  -- ref.go:115
  refine wp_region_lit ?_
  refine L (r_as Hz rfl) Hz rfl ?_
  clear Hz az; intro az Hz
  refine hK1 _ _ ?_
  refine wp_seq_k fun K2 hK2 => ?_
  -- ref.go:115
  refine wp_region_lit ?_
  refine L (r_mv Hz rfl) Hz rfl ?_
  clear Hz az; intro az Hz
  refine LC Hz rfl rfl Tryz.call76 (vnumber_v (s := s) hB 59 rfl) rfl ?_
  rintro e w3 ⟨rfl, B4, o5⟩; refine ⟨_, rfl, ?_⟩
  clear Hz az; intro az Hz
  refine L (r_as Hz rfl) Hz rfl ?_
  clear Hz az; intro az Hz
  refine hK2 _ _ ?_
  refine wp_ret ?_
  show bodyPost _ _ _ .ret _ _
  refine ret_of (vs := [.int .i64 ((Wr.number s 59 0).1)]) Hz Tryz.results60 ⟨rfl, trivial⟩ ?_
  exact ⟨rfl, B4, (Only.trans (Only.refl (oneF g) w) o5 (fun _ h => .inl h))⟩

set_option maxRecDepth 20000 in
set_option maxHeartbeats 4000000 in
theorem vrText_v {w : World} {g : Nat} {s : Wr.Rd} (hB : Blk w g 94 [strV s.r, .bool s.b].toArray) (hfn : Wr.Fine s) : Calls Tryz.prog 59 [.pointer (some ⟨g, 0, none⟩)].toArray w (VTo g (strV (Wr.text s).1) (Wr.text s).2 w) := by
  refine calls_start Tryz.func59 rfl rfl ?_
  intro az Hz
  rw [Tryz.ntmps59] at Hz
  refine wp_seq_k fun K1 hK1 => ?_
  -- ref.go:135
  refine wp_region_lit ?_
  refine L (r_as Hz rfl) Hz rfl ?_
  clear Hz az; intro az Hz
  refine hK1 _ _ ?_
  refine wp_seq_k fun K2 hK2 => ?_
  -- ref.go:136
  refine wp_region_lit ?_
  refine L (r_mv Hz rfl) Hz rfl ?_
  clear Hz az; intro az Hz
  refine LC Hz rfl rfl Tryz.call76 (vnumber_v (s := s) hB 58 rfl) rfl ?_
  rintro e w3 ⟨rfl, B4, o5⟩; refine ⟨_, rfl, ?_⟩
  clear Hz az; intro az Hz
  refine L (r_as Hz rfl) Hz rfl ?_
  clear Hz az; intro az Hz
  refine hK2 _ _ ?_
  refine wp_seq_k fun K6 hK6 => ?_
  refine wp_seq_k fun K7 hK7 => ?_
  -- ref.go:137
  refine wp_region_lit ?_
  refine L (r_mv Hz rfl) Hz rfl ?_
  clear Hz az; intro az Hz
  refine L (r_nilP Hz rfl) Hz rfl ?_
  clear Hz az; intro az Hz
  refine L (r_fa (m' := 1) Tryz.underlying94 rfl Tryz.sizeOf4 rfl Hz rfl rfl) Hz rfl ?_
  clear Hz az; intro az Hz
  refine L (r_ld Tryz.isAgg4 Hz rfl ((Blk.ca B4) 1 _ rfl)) Hz rfl ?_
  clear Hz az; intro az Hz
  refine L (r_mv Hz rfl) Hz rfl ?_
  clear Hz az; intro az Hz
  refine LG Hz rfl rfl gd_f (fun hb => r_mv Hz rfl) rfl ?_
  clear Hz az; intro az Hz
  refine LG Hz rfl rfl gd_f (fun hb => r_mv Hz rfl) rfl ?_
  clear Hz az; intro az Hz
  refine LG Hz rfl rfl gd_f (fun hb => r_nilP Hz (evg hb rfl)) rfl ?_
  clear Hz az; intro az Hz
  refine LG Hz rfl rfl gd_f (fun hb => r_fa (m' := 0) Tryz.underlying94 rfl Tryz.sizeOf9 rfl Hz (evg hb rfl) rfl) rfl ?_
  clear Hz az; intro az Hz
  refine LG Hz rfl rfl gd_f (fun hb => r_ld Tryz.isAgg9 Hz (evg hb rfl) ((Blk.ca B4) 0 _ rfl)) rfl ?_
  clear Hz az; intro az Hz
  refine LG Hz rfl rfl gd_f (fun hb => r_lenS Tryz.underlying9 Hz (evg hb rfl)) rfl ?_
  clear Hz az; intro az Hz
  refine LG Hz rfl rfl gd_f (fun hb => r_geI Hz (evg hb rfl) (evg hb rfl)) rfl ?_
  clear Hz az; intro az Hz
  refine L (r_or Hz rfl rfl rfl) Hz rfl ?_
  clear Hz az; intro az Hz
  refine hK7 _ _ ?_
  refine br Hz rfl (fun hc8 => ?_) (fun hc8 => ?_)
  · -- if0
    have d9 := hc8
    refine wp_seq_k fun K10 hK10 => ?_
    -- ref.go:138
    refine wp_region_lit ?_
    refine L (r_mv Hz rfl) Hz rfl ?_
    clear Hz az; intro az Hz
    refine LC Hz rfl rfl Tryz.call77 (vfail_v (s := (Wr.number s 58 0).2) B4) rfl ?_
    rintro e w11 ⟨rfl, B12, o13⟩; refine ⟨_, rfl, ?_⟩
    clear Hz az; intro az Hz
    refine hK10 _ _ ?_
    refine wp_seq_k fun K14 hK14 => ?_
    -- ref.go:139
    refine wp_region_lit ?_
    refine L (r_as Hz rfl) Hz rfl ?_
    clear Hz az; intro az Hz
    refine hK14 _ _ ?_
    refine wp_ret ?_
    show bodyPost _ _ _ .ret _ _
    refine ret_of (vs := [strV ([])]) Hz Tryz.results59 ⟨rfl, trivial⟩ ?_
    rw [Wr.vtext_f hfn hc8]
    exact ⟨rfl, B12, (Only.trans (Only.trans (Only.refl (oneF g) w) o5 (fun _ h => .inl h)) o13 (fun _ h => .inl h))⟩
  · -- else0
    have q15 : (Wr.number s 58 0).2.b = false := (or_f hc8).1
    have p16 := of_decide_eq_false (or_f hc8).2
    refine wp_skip ?_
    refine hK6 _ _ ?_
    refine wp_seq_k fun K17 hK17 => ?_
    -- ref.go:141
    refine wp_region_lit ?_
    refine L (r_mv Hz rfl) Hz rfl ?_
    clear Hz az; intro az Hz
    refine L (r_nilP Hz rfl) Hz rfl ?_
    clear Hz az; intro az Hz
    refine L (r_fa (m' := 0) Tryz.underlying94 rfl Tryz.sizeOf9 rfl Hz rfl rfl) Hz rfl ?_
    clear Hz az; intro az Hz
    refine L (r_ld Tryz.isAgg9 Hz rfl ((Blk.ca B4) 0 _ rfl)) Hz rfl ?_
    clear Hz az; intro az Hz
    refine L (r_mv Hz rfl) Hz rfl ?_
    clear Hz az; intro az Hz
    obtain ⟨q, hq⟩ : ∃ q : Nat, (Wr.number s 58 0).1 = (q : Int) := ⟨((Wr.number s 58 0).1).toNat, by have := Wr.number_least s 58 0 (Int.le_refl _); omega⟩
    have hcd := Wr.vtext_cond hc8
    have le18 : q ≤ List.length ((Wr.number s 58 0).2.r) := by omega
    refine L (r_ssh (m := q) Tryz.underlying9 Hz rfl rfl hq le18) Hz rfl ?_
    clear Hz az; intro az Hz
    refine L (r_as Hz rfl) Hz rfl ?_
    clear Hz az; intro az Hz
    refine hK17 _ _ ?_
    refine wp_seq_k fun K19 hK19 => ?_
    -- ref.go:142
    refine wp_region_lit ?_
    refine L (r_mv Hz rfl) Hz rfl ?_
    clear Hz az; intro az Hz
    refine L (r_mv Hz rfl) Hz rfl ?_
    clear Hz az; intro az Hz
    refine L (r_nilP Hz rfl) Hz rfl ?_
    clear Hz az; intro az Hz
    refine L (r_fa (m' := 0) Tryz.underlying94 rfl Tryz.sizeOf9 rfl Hz rfl rfl) Hz rfl ?_
    clear Hz az; intro az Hz
    refine L (r_ld Tryz.isAgg9 Hz rfl ((Blk.ca B4) 0 _ rfl)) Hz rfl ?_
    clear Hz az; intro az Hz
    refine L (r_mv Hz rfl) Hz rfl ?_
    clear Hz az; intro az Hz
    have le20 : q ≤ List.length ((Wr.number s 58 0).2.r) := by omega
    refine L (r_ssl (lo := q) Tryz.underlying9 Hz rfl rfl hq le20) Hz rfl ?_
    clear Hz az; intro az Hz
    refine L (r_nilP Hz rfl) Hz rfl ?_
    clear Hz az; intro az Hz
    refine L (r_fa (m' := 0) Tryz.underlying94 rfl Tryz.sizeOf9 rfl Hz rfl rfl) Hz rfl ?_
    clear Hz az; intro az Hz
    refine LSt (cs' := [strV (List.drop q ((Wr.number s 58 0).2.r)), .bool ((Wr.number s 58 0).2.b)]) Tryz.sizeOf9 Hz rfl rfl rfl rfl rfl ⟨rfl, trivial⟩ B4 rfl rfl fun w21 s22 B23 => ?_
    refine hK19 _ _ ?_
    refine wp_seq_k fun K24 hK24 => ?_
    refine wp_seq_k fun K25 hK25 => ?_
    -- ref.go:143
    refine wp_region_lit ?_
    refine L (r_mv Hz rfl) Hz rfl ?_
    clear Hz az; intro az Hz
    refine LC Hz rfl rfl Tryz.call78 (vclose_v (s := (⟨List.drop q ((Wr.number s 58 0).2.r), (Wr.number s 58 0).2.b⟩ : Wr.Rd)) B23 44 rfl) rfl ?_
    rintro e w26 ⟨rfl, B27, o28⟩; refine ⟨_, rfl, ?_⟩
    clear Hz az; intro az Hz
    refine L (r_not Hz rfl) Hz rfl ?_
    clear Hz az; intro az Hz
    refine hK25 _ _ ?_
    refine br Hz rfl (fun hc29 => ?_) (fun hc29 => ?_)
    · -- if1
      have q30 : Wr.closeB (⟨List.drop q ((Wr.number s 58 0).2.r), (Wr.number s 58 0).2.b⟩ : Wr.Rd) 44 = false := (nt_t hc29)
      refine wp_seq_k fun K31 hK31 => ?_
      -- ref.go:144
      refine wp_region_lit ?_
      refine L (r_as Hz rfl) Hz rfl ?_
      clear Hz az; intro az Hz
      refine hK31 _ _ ?_
      refine wp_ret ?_
      show bodyPost _ _ _ .ret _ _
      refine ret_of (vs := [strV ([])]) Hz Tryz.results59 ⟨rfl, trivial⟩ ?_
      rw [Wr.vtext_2 hc8 hq (nt_t hc29)]
      exact ⟨rfl, B27, (Only.trans (Only.trans (Only.trans (Only.refl (oneF g) w) o5 (fun _ h => .inl h)) s22 (fun _ h => .inl h)) o28 (fun _ h => .inl h))⟩
    · -- else1
      have q32 : Wr.closeB (⟨List.drop q ((Wr.number s 58 0).2.r), (Wr.number s 58 0).2.b⟩ : Wr.Rd) 44 = true := (nt_f hc29)
      refine wp_skip ?_
      refine hK24 _ _ ?_
      refine wp_seq_k fun K33 hK33 => ?_
      -- ref.go:146
      refine wp_region_lit ?_
      refine L (r_mv Hz rfl) Hz rfl ?_
      clear Hz az; intro az Hz
      refine L (r_as Hz rfl) Hz rfl ?_
      clear Hz az; intro az Hz
      refine hK33 _ _ ?_
      refine wp_ret ?_
      show bodyPost _ _ _ .ret _ _
      refine ret_of (vs := [strV (List.take q ((Wr.number s 58 0).2.r))]) Hz Tryz.results59 ⟨rfl, trivial⟩ ?_
      rw [Wr.vtext_3 hc8 hq (nt_f hc29)]
      exact ⟨rfl, B27, (Only.trans (Only.trans (Only.trans (Only.refl (oneF g) w) o5 (fun _ h => .inl h)) s22 (fun _ h => .inl h)) o28 (fun _ h => .inl h))⟩

set_option maxRecDepth 20000 in
set_option maxHeartbeats 4000000 in
theorem vrLeft_v {w : World} {g : Nat} {s : Wr.Rd} (hB : Blk w g 94 [strV s.r, .bool s.b].toArray) : Calls Tryz.prog 58 [.pointer (some ⟨g, 0, none⟩)].toArray w (Fix (.int .i64 ((s.r.length : Nat) : Int)) w) := by
  refine calls_start Tryz.func58 rfl rfl ?_
  intro az Hz
  rw [Tryz.ntmps58] at Hz
  refine wp_seq_k fun K1 hK1 => ?_
  -- ref.go:183
  refine wp_region_lit ?_
  refine L (r_as Hz rfl) Hz rfl ?_
  clear Hz az; intro az Hz
  refine hK1 _ _ ?_
  refine wp_seq_k fun K2 hK2 => ?_
  -- ref.go:183
  refine wp_region_lit ?_
  refine L (r_mv Hz rfl) Hz rfl ?_
  clear Hz az; intro az Hz
  refine L (r_nilP Hz rfl) Hz rfl ?_
  clear Hz az; intro az Hz
  refine L (r_fa (m' := 0) Tryz.underlying94 rfl Tryz.sizeOf9 rfl Hz rfl rfl) Hz rfl ?_
  clear Hz az; intro az Hz
  refine L (r_ld Tryz.isAgg9 Hz rfl ((Blk.ca hB) 0 _ rfl)) Hz rfl ?_
  clear Hz az; intro az Hz
  refine L (r_lenS Tryz.underlying9 Hz rfl) Hz rfl ?_
  clear Hz az; intro az Hz
  refine L (r_as Hz rfl) Hz rfl ?_
  clear Hz az; intro az Hz
  refine hK2 _ _ ?_
  refine wp_ret ?_
  show bodyPost _ _ _ .ret _ _
  refine ret_of (vs := [.int .i64 (((List.length (s.r) : Nat) : Int))]) Hz Tryz.results58 ⟨rfl, trivial⟩ ?_
  exact ⟨rfl, (Only.refl NoF w)⟩

set_option maxRecDepth 20000 in
set_option maxHeartbeats 4000000 in
theorem vOpen_v (w : World) (t : Str) : Calls Tryz.prog 57 [strV t].toArray w (VOpenTo t w) := by
  refine calls_start Tryz.func57 rfl rfl ?_
  intro az Hz
  rw [Tryz.ntmps57] at Hz
  refine wp_seq_k fun K1 hK1 => ?_
  -- ref.go:57
  refine wp_region_lit ?_
  refine L (r_as Hz rfl) Hz rfl ?_
  clear Hz az; intro az Hz
  refine hK1 _ _ ?_
  refine wp_seq_k fun K2 hK2 => ?_
  -- ref.go:57
  refine wp_region_lit ?_
  refine L (r_mv Hz rfl) Hz rfl ?_
  clear Hz az; intro az Hz
  refine L (r_bd (v := .agg #[strV (t), .bool (false)]) (build_vRd _) Hz rfl) Hz rfl ?_
  clear Hz az; intro az Hz
  refine LBox Hz rfl rfl rfl ?_
  clear Hz az; intro g3 w4 hg7 hl8 o5 B6 az Hz
  refine L (r_as Hz rfl) Hz rfl ?_
  clear Hz az; intro az Hz
  refine hK2 _ _ ?_
  refine wp_ret ?_
  show bodyPost _ _ _ .ret _ _
  refine ret_of (vs := [.pointer (some ((⟨g3, 0, none⟩ : Addr)))]) Hz Tryz.results57 ⟨rfl, trivial⟩ ?_
  exact ⟨_, rfl, hg7, B6, o5⟩
end
end Go.Proofs.YtlnadcihnfppaaaGreatDoor
