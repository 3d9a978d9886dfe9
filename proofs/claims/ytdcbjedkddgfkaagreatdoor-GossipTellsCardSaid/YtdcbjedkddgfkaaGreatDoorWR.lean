/-
  The reference's encodings, walked: digits, Int, Num, Text, Nums, Texts. Condition: at most 1,000,000 elements, and a bound on the bytes.
  The reference's reader, walked, but for lists. Condition: a reader that has failed has nothing left (Text).
-/
import Derived.Test.YtdcbjedkddgfkaaGreatDoorWQ
import Derived.Test.YtdcbjedkddgfkaaGreatDoorWU
import Derived.Lib.LazyBuf
import Derived.Laws.IdiomStrings
import Derived.Test.YtdcbjedkddgfkaaGreatDoorWir5
namespace Go.Proofs.YtdcbjedkddgfkaaGreatDoor
set_option maxHeartbeats 4000000
set_option maxRecDepth 20000
set_option linter.unusedVariables false
set_option linter.unusedSimpArgs false
set_option linter.unusedSectionVars false
section
open Go.RowKit
def KByte : Row UInt8 := ⟨1, fun m => [.int .u8 ((m.toNat : Nat) : Int)], fun _ => True, fun _ => rfl, by decide, fun x u hu => by
 simp at hu
 rcases hu with rfl; rfl⟩
section
variable {P : Program} {w : World} {n : Nat} {l : List (Nat × Value)} {a : Act} {dst : Option Tmp} {ty : TypeId} {pos : String} {aft : Array Edge} {g : Option (Nat × Bool)} {x y : Operand}
theorem r_cvI {src dt : TypeId} {u : TypeDesc} {k : IntKind} {p : Int} {q : Int} (hs : P.underlying src = some u) (hd : P.underlying dt = some (.int .u8)) (H : Fr n l a) (hx : ev l x = some (.int k p)) (hq : p = q) (hp : 0 ≤ p ∧ p < 256) :
 (execOp a.eval ⟨dst, .convert src dt x, ty, pos, aft, g⟩).run P w = .ok (.value (.int .u8 q)) w := by
 subst hq
 have h := run_convert_int w src dt k p (by rw [hs]; rfl) (by unfold Program.intKind; rw [hd])
 have e : P.intKind dt = .u8 := by unfold Program.intKind; rw [hd]
 have e2 : IntKind.u8.wrap p = p := by simp [IntKind.wrap, IntKind.signed, IntKind.bits]; omega
 rw [e, e2] at h
 simp [execOp, H.eval hx, h]
theorem r_cvB {src dt e : TypeId} {v : Value} {t : Str} {S : Nat → Prop} (hs : P.underlying src = some (.slice e)) (he : P.underlying e = some (.int .u8)) (hd : P.underlying dt = some .string) (H : Fr n l a) (hx : ev l x = some v) (h : SliceOf S 1 KByte.R w v t) (ht : 0 < t.length) :
 (execOp a.eval ⟨dst, .convert src dt x, ty, pos, aft, g⟩).run P w = .ok (.value (strV t)) w := by
 obtain ⟨A, c, rfl, _⟩ := SliceOf.shape h
 obtain ⟨_, _, _, hA⟩ := Row.el KByte h ht
 obtain ⟨p, rfl⟩ := Option.isSome_iff_exists.1 hA
 have hr := run_convert_bytes_back (P := P) w src dt e p c t hs he hd fun j hj => by
  have := CA.first (Row.ce KByte h (List.getElem?_eq_getElem hj) rfl w (Only.refl _ _))
  rw [← this]
  show _ = w.cell? ((Option.getD (some p) ⟨0, 0, none⟩).add (j * 1))
  rw [Nat.mul_one]; rfl
 simp [execOp, H.eval hx, hr, strV]
end
namespace Wr
theorem dig_len {k : Nat} : Lib.decDigits (-(-((k : Nat) : Int))).toNat = Lib.itoa (k : Int) := by
 rw [Int.neg_neg]; unfold Lib.itoa; rw [if_neg (by omega)]
theorem intE_neg {n : Int} (h : n < 0) : intE n = ([45] ++ Lib.decDigits (-n).toNat) ++ [59] := by
 unfold intE Lib.itoa; rw [if_pos h, show n.natAbs = (-n).toNat by omega]; rfl
theorem intE_pos {n : Int} (h : ¬ n < 0) : intE n = Lib.decDigits (-(-n)).toNat ++ [59] := by
 unfold intE Lib.itoa; rw [if_neg h, Int.neg_neg]
theorem textE_r {t : Str} : textE t = Lib.decDigits (-(-((t.length : Nat) : Int))).toNat ++ [58] ++ t ++ [44] := by
 rw [dig_len]; rfl
end Wr
theorem digits_k (k : Nat) : ∀ (w : World) (n : Int), n = -(k : Int) → k ≤ 9223372036854775808 → Calls Tryz.prog 142 [.int .i64 n].toArray w (Fix (strV (Lib.decDigits k)) w) := by
 induction k using Nat.strongRecOn
 rename_i k ih
 intro w n hn hk
 have hrm : Int.tmod n 10 = -((k % 10 : Nat) : Int) := by subst hn; rw [Int.neg_tmod]; rfl
 have hqt : Int.tdiv n 10 = -((k / 10 : Nat) : Int) := by subst hn; rw [Int.neg_tdiv]; rfl
 obtain ⟨d, hd⟩ : ∃ d : UInt8, d = UInt8.ofNat (48 + k % 10) := ⟨_, rfl⟩
 have hd2 : d.toNat = 48 + k % 10 := by rw [hd]; exact dig_byte _ (Nat.mod_lt _ (by decide))
 refine calls_start Tryz.func142 rfl rfl ?_
 intro az Z
 rw [Tryz.ntmps142] at Z
 refine wp_seq_k fun _ k1 => wp_region_lit ?_
 refine L (r_as Z rfl) Z rfl ?_; clear Z az; intro az Z
 refine k1 _ _ (wp_seq_k fun _ k2 => wp_region_lit ?_)
 refine L (r_mv Z rfl) Z rfl ?_; clear Z az; intro az Z
 refine L (r_remI Z rfl rfl (by decide)) Z rfl ?_; clear Z az; intro az Z
 have i3 : I64 ((48 - (Int.tmod n 10))) := by unfold I64; omega
 refine L (r_subI (r := (48 - (Int.tmod n 10))) Z rfl rfl rfl i3) Z rfl ?_; clear Z az; intro az Z
 refine L (r_cvI (q := ((d.toNat : Nat) : Int)) Tryz.underlying3 Tryz.underlying5 Z rfl (by rw [hd2]; omega) (by omega)) Z rfl ?_; clear Z az; intro az Z
 obtain ⟨A4, w5, hw, hA, r6, o7⟩ := Row.made (w := w) KByte (e := 5) ([d] : List UInt8) (by simp only [List.length_cons, List.length_nil]; unfold maxLen; omega)
 refine L (r_bs (z := .int .u8 (0)) (size := 1) (vs := [(0, .int .u8 (((d.toNat : Nat) : Int)))]) (cs := List.flatMap KByte.cells [d]) Tryz.underlying135 Tryz.sizeOf5 Tryz.zeroValue5 rfl (Fr.evalps Z rfl) (by kernel_rfl)) Z rfl ?_
 rw [← hw, ← hA]; clear Z az; intro az Z
 clear hw hA
 have ok8 : ∀ zq ∈ ([d] : List UInt8), KByte.ok zq := by intro zq hx; simp only [List.mem_cons, List.not_mem_nil, or_false] at hx; rcases hx with rfl <;> first | exact True.intro
 have h9 := Row.own KByte r6 ok8
 have h10 := SliceOf.pl h9
 refine L (r_cvB Tryz.underlying135 Tryz.underlying5 Tryz.underlying9 Z rfl h10 (Nat.zero_lt_one)) Z rfl ?_; clear Z az; intro az Z
 refine L (r_as Z rfl) Z rfl ?_; clear Z az; intro az Z
 refine k2 _ _ (wp_seq_k fun _ k11 => ?_)
 refine wp_seq_k fun _ k12 => wp_region_lit ?_
 refine L (r_mv Z rfl) Z rfl ?_; clear Z az; intro az Z
 refine L (r_gtI Z rfl rfl) Z rfl ?_; clear Z az; intro az Z
 refine k12 _ _ ?_
 refine br Z rfl (fun hc13 => ?_) (fun hc13 => ?_)
 ·
  have p14 := of_decide_eq_true hc13
  refine wp_seq_k fun _ k15 => wp_region_lit ?_
  refine L (r_mv Z rfl) Z rfl ?_; clear Z az; intro az Z
  refine L (r_as Z rfl) Z rfl ?_; clear Z az; intro az Z
  refine k15 _ _ ?_
  refine wp_ret ?_
  show bodyPost _ _ _ .ret _ _
  refine ret_of (vs := [strV ([d])]) Z Tryz.results142 ⟨rfl, trivial⟩ ?_
  have hk3 : k < 10 := by omega
  rw [dec_small hk3, show k = k % 10 by omega, ← hd]; exact ⟨rfl, o7⟩
 ·
  have p16 := of_decide_eq_false hc13
  refine wp_skip ?_
  refine k11 _ _ (wp_seq_k fun _ k17 => wp_region_lit ?_)
  refine L (r_mv Z rfl) Z rfl ?_; clear Z az; intro az Z
  refine L (r_quoI Z rfl rfl (by decide) (by unfold I64; omega)) Z rfl ?_; clear Z az; intro az Z
  have hk2 : ¬ k < 10 := by omega
  have hdl := dec_len (k / 10) 19 (by omega)
  refine LCV (v := strV (Lib.decDigits (k / 10))) Z rfl rfl Tryz.call142 (ih (k / 10) (by omega) _ _ (by omega) (by omega)) rfl fun w18 o19 => ?_; clear Z az; intro az Z
  refine L (r_mv Z rfl) Z rfl ?_; clear Z az; intro az Z
  refine L (r_addS Z rfl rfl (by (try simp only [List.length_append, List.length_cons, List.length_nil]); omega)) Z rfl ?_; clear Z az; intro az Z
  refine L (r_as Z rfl) Z rfl ?_; clear Z az; intro az Z
  refine k17 _ _ ?_
  refine wp_ret ?_
  show bodyPost _ _ _ .ret _ _
  refine ret_of (vs := [strV (Lib.decDigits (k / 10) ++ [d])]) Z Tryz.results142 ⟨rfl, trivial⟩ ?_
  have O20 : Only NoF w w18 := (Only.trans' o7 o19)
  rw [dec_big hk2, ← hd]; exact ⟨rfl, O20⟩
theorem digits_len {n : Int} (h : -9223372036854775808 ≤ n ∧ n ≤ 0) : (Lib.decDigits (-n).toNat).length ≤ 20 := dec_len _ 19 (by omega)
theorem digits_v (w : World) (n : Int) (h : -9223372036854775808 ≤ n ∧ n ≤ 0) : Calls Tryz.prog 142 [.int .i64 n].toArray w (Fix (strV (Lib.decDigits (-n).toNat)) w) := digits_k _ _ _ (by omega) (by omega)
theorem vInt_v (w : World) (n : Int) (hn : Wr.Ok n) : Calls Tryz.prog 141 [.int .i64 n].toArray w (Fix (strV (Wr.intE n)) w) := by
 refine calls_start Tryz.func141 rfl rfl ?_
 intro az Z
 rw [Tryz.ntmps141] at Z
 refine wp_seq_k fun _ k1 => wp_region_lit ?_
 refine L (r_as Z rfl) Z rfl ?_; clear Z az; intro az Z
 refine k1 _ _ (wp_seq_k fun _ k2 => ?_)
 refine wp_seq_k fun _ k3 => wp_region_lit ?_
 refine L (r_mv Z rfl) Z rfl ?_; clear Z az; intro az Z
 refine L (r_ltI Z rfl rfl) Z rfl ?_; clear Z az; intro az Z
 refine k3 _ _ ?_
 refine br Z rfl (fun hc4 => ?_) (fun hc4 => ?_)
 ·
  have p5 := of_decide_eq_true hc4
  refine wp_seq_k fun _ k6 => wp_region_lit ?_
  refine L (r_mv Z rfl) Z rfl ?_; clear Z az; intro az Z
  have hdl := digits_len (n := n) (by unfold Wr.Ok at hn; omega)
  refine LCV (v := strV (Lib.decDigits (-n).toNat)) Z rfl rfl Tryz.call142 (digits_v _ n (by unfold Wr.Ok at hn; omega)) rfl fun w7 o8 => ?_; clear Z az; intro az Z
  refine L (r_addS Z rfl rfl (by (try simp only [List.length_append, List.length_cons, List.length_nil]); unfold Wr.Ok at hn; omega)) Z rfl ?_; clear Z az; intro az Z
  refine L (r_addS Z rfl rfl (by (try simp only [List.length_append, List.length_cons, List.length_nil]); unfold Wr.Ok at hn; omega)) Z rfl ?_; clear Z az; intro az Z
  refine L (r_as Z rfl) Z rfl ?_; clear Z az; intro az Z
  refine k6 _ _ ?_
  refine wp_ret ?_
  show bodyPost _ _ _ .ret _ _
  refine ret_of (vs := [strV ([45] ++ Lib.decDigits (-n).toNat ++ [59])]) Z Tryz.results141 ⟨rfl, trivial⟩ ?_
  rw [Wr.intE_neg (of_decide_eq_true hc4)]; exact ⟨rfl, o8⟩
 ·
  have p9 := of_decide_eq_false hc4
  refine wp_skip ?_
  refine k2 _ _ (wp_seq_k fun _ k10 => wp_region_lit ?_)
  refine L (r_mv Z rfl) Z rfl ?_; clear Z az; intro az Z
  have i11 : I64 (-(n)) := by unfold I64; unfold Wr.Ok at hn; omega
  refine L (r_neg (r := -(n)) Z rfl rfl i11) Z rfl ?_; clear Z az; intro az Z
  have hdl := digits_len (n := -(n)) (by unfold Wr.Ok at hn; omega)
  refine LCV (v := strV (Lib.decDigits (-(-(n))).toNat)) Z rfl rfl Tryz.call142 (digits_v _ (-(n)) (by unfold Wr.Ok at hn; omega)) rfl fun w12 o13 => ?_; clear Z az; intro az Z
  refine L (r_addS Z rfl rfl (by (try simp only [List.length_append, List.length_cons, List.length_nil]); unfold Wr.Ok at hn; omega)) Z rfl ?_; clear Z az; intro az Z
  refine L (r_as Z rfl) Z rfl ?_; clear Z az; intro az Z
  refine k10 _ _ ?_
  refine wp_ret ?_
  show bodyPost _ _ _ .ret _ _
  refine ret_of (vs := [strV (Lib.decDigits (-(-(n))).toNat ++ [59])]) Z Tryz.results141 ⟨rfl, trivial⟩ ?_
  rw [Wr.intE_pos (of_decide_eq_false hc4)]; exact ⟨rfl, o13⟩
theorem vNum_v (w : World) (n : Int) (hn : Wr.Ok n) : Calls Tryz.prog 118 [.int .i64 n].toArray w (Fix (strV (Wr.numE n)) w) := by
 refine calls_start Tryz.func118 rfl rfl ?_
 intro az Z
 rw [Tryz.ntmps118] at Z
 refine wp_seq_k fun _ k1 => wp_region_lit ?_
 refine L (r_as Z rfl) Z rfl ?_; clear Z az; intro az Z
 refine k1 _ _ (wp_seq_k fun _ k2 => ?_)
 refine wp_seq_k fun _ k3 => wp_region_lit ?_
 refine L (r_mv Z rfl) Z rfl ?_; clear Z az; intro az Z
 refine L (r_ltI Z rfl rfl) Z rfl ?_; clear Z az; intro az Z
 refine k3 _ _ ?_
 refine br Z rfl (fun hc4 => ?_) (fun hc4 => ?_)
 ·
  have p5 := of_decide_eq_true hc4
  refine wp_seq_k fun _ k6 => wp_region_lit ?_
  refine L (r_as Z rfl) Z rfl ?_; clear Z az; intro az Z
  refine k6 _ _ ?_
  refine wp_ret ?_
  show bodyPost _ _ _ .ret _ _
  refine ret_of (vs := [strV ([])]) Z Tryz.results118 ⟨rfl, trivial⟩ ?_
  unfold Wr.numE; rw [if_pos (of_decide_eq_true hc4)]; exact ⟨rfl, (Only.refl NoF w)⟩
 ·
  have p7 := of_decide_eq_false hc4
  refine wp_skip ?_
  refine k2 _ _ (wp_seq_k fun _ k8 => wp_region_lit ?_)
  refine L (r_mv Z rfl) Z rfl ?_; clear Z az; intro az Z
  refine LCV (v := strV (Wr.intE n)) Z rfl rfl Tryz.call141 (vInt_v _ n hn) rfl fun w9 o10 => ?_; clear Z az; intro az Z
  refine L (r_as Z rfl) Z rfl ?_; clear Z az; intro az Z
  refine k8 _ _ ?_
  refine wp_ret ?_
  show bodyPost _ _ _ .ret _ _
  refine ret_of (vs := [strV (Wr.intE n)]) Z Tryz.results118 ⟨rfl, trivial⟩ ?_
  unfold Wr.numE; rw [if_neg (of_decide_eq_false hc4)]; exact ⟨rfl, o10⟩
theorem vText_v (w : World) (t : Str) (ht : t.length ≤ 1000000000) : Calls Tryz.prog 120 [strV t].toArray w (Fix (strV (Wr.textE t)) w) := by
 refine calls_start Tryz.func120 rfl rfl ?_
 intro az Z
 rw [Tryz.ntmps120] at Z
 refine wp_seq_k fun _ k1 => wp_region_lit ?_
 refine L (r_as Z rfl) Z rfl ?_; clear Z az; intro az Z
 refine k1 _ _ (wp_seq_k fun _ k2 => wp_region_lit ?_)
 refine L (r_mv Z rfl) Z rfl ?_; clear Z az; intro az Z
 refine L (r_lenS Tryz.underlying9 Z rfl) Z rfl ?_; clear Z az; intro az Z
 have i3 : I64 (-(((List.length (t) : Nat) : Int))) := by unfold I64; omega
 refine L (r_neg (r := -(((List.length (t) : Nat) : Int))) Z rfl rfl i3) Z rfl ?_; clear Z az; intro az Z
 have hdl := digits_len (n := -(((List.length (t) : Nat) : Int))) (by omega)
 refine LCV (v := strV (Lib.decDigits (-(-(((List.length (t) : Nat) : Int)))).toNat)) Z rfl rfl Tryz.call142 (digits_v _ (-(((List.length (t) : Nat) : Int))) (by omega)) rfl fun w4 o5 => ?_; clear Z az; intro az Z
 refine L (r_addS Z rfl rfl (by (try simp only [List.length_append, List.length_cons, List.length_nil]); omega)) Z rfl ?_; clear Z az; intro az Z
 refine L (r_mv Z rfl) Z rfl ?_; clear Z az; intro az Z
 refine L (r_addS Z rfl rfl (by (try simp only [List.length_append, List.length_cons, List.length_nil]); omega)) Z rfl ?_; clear Z az; intro az Z
 refine L (r_addS Z rfl rfl (by (try simp only [List.length_append, List.length_cons, List.length_nil]); omega)) Z rfl ?_; clear Z az; intro az Z
 refine L (r_as Z rfl) Z rfl ?_; clear Z az; intro az Z
 refine k2 _ _ ?_
 refine wp_ret ?_
 show bodyPost _ _ _ .ret _ _
 refine ret_of (vs := [strV (Lib.decDigits (-(-(((List.length (t) : Nat) : Int)))).toNat ++ [58] ++ t ++ [44])]) Z Tryz.results120 ⟨rfl, trivial⟩ ?_
 rw [Wr.textE_r]; exact ⟨rfl, o5⟩
theorem vNums_v_ {w : World} {l : List Int} {A1 : Option Addr} {c1 : Nat} (f1 : IntsV w (.slice A1 l.length c1) l) (hl : l.length ≤ 1000000) (hb : (l.flatMap Wr.intE).length ≤ 1000000000) : Calls Tryz.prog 119 [.slice A1 l.length c1].toArray w (Fix (strV (Wr.numsE l)) w) := by
 refine calls_start Tryz.func119 rfl rfl ?_
 intro az Z
 rw [Tryz.ntmps119] at Z
 refine wp_seq_k fun _ k1 => wp_region_lit ?_
 refine L (r_as Z rfl) Z rfl ?_; clear Z az; intro az Z
 refine k1 _ _ (wp_seq_k fun _ k2 => wp_region_lit ?_)
 refine L (r_mv Z rfl) Z rfl ?_; clear Z az; intro az Z
 refine L (r_lenL Tryz.underlying30 Z rfl) Z rfl ?_; clear Z az; intro az Z
 have i3 : I64 (-(((l.length : Nat) : Int))) := by unfold I64; omega
 refine L (r_neg (r := -(((l.length : Nat) : Int))) Z rfl rfl i3) Z rfl ?_; clear Z az; intro az Z
 have hdl := digits_len (n := -(((l.length : Nat) : Int))) (by omega)
 refine LCV (v := strV (Lib.decDigits (-(-(((l.length : Nat) : Int)))).toNat)) Z rfl rfl Tryz.call142 (digits_v _ (-(((l.length : Nat) : Int))) (by omega)) rfl fun w4 o5 => ?_; clear Z az; intro az Z
 refine L (r_addS Z rfl rfl (by (try simp only [List.length_append, List.length_cons, List.length_nil]); omega)) Z rfl ?_; clear Z az; intro az Z
 refine L (r_as Z rfl) Z rfl ?_; clear Z az; intro az Z
 refine k2 _ _ (wp_seq_k fun _ k6 => ?_)
 refine wp_seq_k fun _ k7 => wp_region_lit ?_
 refine L (r_as Z rfl) Z rfl ?_; clear Z az; intro az Z
 refine k7 _ _ ?_
 refine wp_block ?_
 refine wp_loop_m (fun mz az W => ∃ k : Nat, ∃ X : Str, mz = l.length - k ∧ Fr 25 [(0, .slice A1 (l.length) c1), (4, .int .i64 ((k : Int))), (3, strV (X))] az ∧ (k ≤ l.length) ∧ (X = Lib.itoa ((l.length : Nat) : Int) ++ [91] ++ List.flatMap Wr.intE (List.take k l)) ∧ Only NoF w4 W) ?_ ?_
 ·
  exact ⟨_, 0, _, rfl, Z.cut ⟨rfl, rfl, rfl, trivial⟩, Nat.zero_le _, (by rw [Wr.dig_len]; simp), (Only.refl NoF w4)⟩
 clear Z az
 rintro mz az w8 ⟨k, X, hm10, Z, hk, hX, o9⟩
 have hft := flat_take_le Wr.intE l k
 have hXl : X.length ≤ 21 + (List.flatMap Wr.intE (List.take k l)).length := by have hq := itoa_len ((l.length : Nat) : Int) (by omega) (by omega); rw [hX]; simp only [List.length_append, List.length_cons, List.length_nil]; omega
 refine wp_seq_k fun _ k11 => ?_
 refine wp_seq_k fun _ k12 => wp_region_lit ?_
 refine L (r_mv Z rfl) Z rfl ?_; clear Z az; intro az Z
 refine L (r_mv Z rfl) Z rfl ?_; clear Z az; intro az Z
 refine L (r_lenL Tryz.underlying30 Z rfl) Z rfl ?_; clear Z az; intro az Z
 refine L (r_ltI Z rfl rfl) Z rfl ?_; clear Z az; intro az Z
 refine k12 _ _ ?_
 refine br Z rfl (fun hc13 => ?_) (fun hc13 => ?_)
 ·
  have p14 := of_decide_eq_true hc13
  refine wp_skip ?_
  refine k11 _ _ (wp_seq_k fun _ k15 => ?_)
  refine wp_block ?_
  refine wp_region_lit ?_
  refine L (r_mv Z rfl) Z rfl ?_; clear Z az; intro az Z
  refine L (r_mv Z rfl) Z rfl ?_; clear Z az; intro az Z
  refine L (r_mv Z rfl) Z rfl ?_; clear Z az; intro az Z
  have hk16 : k < (l).length := by omega
  have O22 : Only NoF w w8 := (Only.trans' o5 o9)
  have h23 := (SliceOf.kp f1 O22 (fun _ _ h => h) (fun _ _ _ _ h => h))
  obtain ⟨m17, hm18, ok19, hA20⟩ := Row.el KInt h23 hk16
  have E21 : ∀ W, Only NoF w8 W → CA W (eA A1 1 (k)) [.int .i64 (m17)] := Row.ce KInt h23 hm18 rfl
  refine L (r_ia (k := k) (size := 1) Tryz.underlying30 Tryz.sizeOf3 Z rfl rfl rfl hk16 hA20) Z rfl ?_; clear Z az; intro az Z
  refine L (r_ld Tryz.isAgg3 Z rfl (CA.first (E21 _ (Only.refl NoF w8)))) Z rfl ?_; clear Z az; intro az Z
  have hst := flat_step Wr.intE hm18
  have hst2 := flat_take_le Wr.intE l (k + 1); rw [hst, List.length_append] at hst2
  refine LCV (v := strV (Wr.intE m17)) Z rfl rfl Tryz.call141 (vInt_v _ m17 (wr_ok ok19)) rfl fun w24 o25 => ?_; clear Z az; intro az Z
  refine L (r_addS Z rfl rfl (by (try simp only [List.length_append, List.length_cons, List.length_nil]); omega)) Z rfl ?_; clear Z az; intro az Z
  refine L (r_as Z rfl) Z rfl ?_; clear Z az; intro az Z
  refine k15 _ _ ?_
  refine wp_region_lit ?_
  refine L (r_mv Z rfl) Z rfl ?_; clear Z az; intro az Z
  have i26 : I64 (((k : Int) + 1)) := by unfold I64; omega
  refine L (r_addI (r := ((k : Int) + 1)) Z rfl rfl rfl i26) Z rfl ?_; clear Z az; intro az Z
  refine L (r_as Z rfl) Z rfl ?_; clear Z az; intro az Z
  have O27 : Only NoF w4 w24 := (Only.trans' o9 o25)
  exact ⟨_, (by omega), k + 1, _, rfl, Z.cut ⟨rfl, rfl, rfl, trivial⟩, (by omega), (by rw [hst, hX]; simp only [List.append_assoc]), O27⟩
 ·
  have p28 := of_decide_eq_false hc13
  refine wp_exit ?_
  refine th_exit ?_
  refine th_exit ?_
  refine ib_hit ?_
  refine k6 _ _ (wp_seq_k fun _ k29 => wp_region_lit ?_)
  refine L (r_mv Z rfl) Z rfl ?_; clear Z az; intro az Z
  refine L (r_addS Z rfl rfl (by (try simp only [List.length_append, List.length_cons, List.length_nil]); omega)) Z rfl ?_; clear Z az; intro az Z
  refine L (r_as Z rfl) Z rfl ?_; clear Z az; intro az Z
  refine k29 _ _ ?_
  refine wp_ret ?_
  show bodyPost _ _ _ .ret _ _
  refine ret_of (vs := [strV (X ++ [93])]) Z Tryz.results119 ⟨rfl, trivial⟩ ?_
  rw [List.take_of_length_le (show l.length ≤ k by omega)] at hX
  have O30 : Only NoF w w8 := (Only.trans' o5 o9)
  exact ⟨congrArg (fun x => Ending.returned (strV (x ++ [93]))) hX, O30⟩
theorem vNums_v {w : World} {v : Value} {l : List Int} (h : IntsV w v l) (hl : l.length ≤ 1000000) (hb : (l.flatMap Wr.intE).length ≤ 1000000000) : Calls Tryz.prog 119 #[v] w (Fix (strV (Wr.numsE l)) w) := by
 obtain ⟨A1, c1, rfl, _⟩ := SliceOf.shape h
 exact vNums_v_ h hl hb
end
section
open Go.RowKit
end
end Go.Proofs.YtdcbjedkddgfkaaGreatDoor
