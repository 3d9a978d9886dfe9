/-
  The reference's encodings, walked: digits, Int, Num, Text, Nums, Texts. Condition: at most 1,000,000 elements, and a bound on the bytes.
  The reference's reader, walked, but for lists. Condition: a reader that has failed has nothing left (Text).
-/
import Derived.Test.YtdegmpigkgkafaaGreatDoorWW3
import Derived.Test.YtdegmpigkgkafaaGreatDoorWU
import Derived.Lib.LazyBuf
import Derived.Laws.IdiomStrings
import Derived.Test.YtdegmpigkgkafaaGreatDoorWir5
namespace Go.Proofs.YtdegmpigkgkafaaGreatDoor
set_option maxHeartbeats 4000000
set_option maxRecDepth 20000
set_option linter.unusedVariables false
set_option linter.unusedSimpArgs false
set_option linter.unusedSectionVars false
section
open Go.RowKit
def KByte : Row UInt8 := ⟨1, fun m => [.int .u8 ((m.toNat : Nat) : Int)], fun _ => True, fun _ => rfl, by decide, fun x u hu => by
 simp at hu
 rcases hu with rfl; rfl⟩
section
variable {P : Program} {w : World} {n : Nat} {l : List (Nat × Value)} {a : Act} {dst : Option Tmp} {ty : TypeId} {pos : String} {aft : Array Edge} {g : Option (Nat × Bool)} {x y : Operand}
theorem r_cvI {src dt : TypeId} {u : TypeDesc} {k : IntKind} {p : Int} {q : Int} (hs : P.underlying src = some u) (hd : P.underlying dt = some (.int .u8)) (H : Fr n l a) (hx : ev l x = some (.int k p)) (hq : p = q) (hp : 0 ≤ p ∧ p < 256) :
 (execOp a.eval ⟨dst, .convert src dt x, ty, pos, aft, g⟩).run P w = .ok (.value (.int .u8 q)) w := by
 subst hq
 have h := run_convert_int w src dt k p (by rw [hs]; rfl) (by unfold Program.intKind; rw [hd])
 have e : P.intKind dt = .u8 := by unfold Program.intKind; rw [hd]
 have e2 : IntKind.u8.wrap p = p := by simp [IntKind.wrap, IntKind.signed, IntKind.bits]; omega
 rw [e, e2] at h
 simp [execOp, H.eval hx, h]
theorem r_cvB {src dt e : TypeId} {v : Value} {t : Str} {S : Nat → Prop} (hs : P.underlying src = some (.slice e)) (he : P.underlying e = some (.int .u8)) (hd : P.underlying dt = some .string) (H : Fr n l a) (hx : ev l x = some v) (h : SliceOf S 1 KByte.R w v t) (ht : 0 < t.length) :
 (execOp a.eval ⟨dst, .convert src dt x, ty, pos, aft, g⟩).run P w = .ok (.value (strV t)) w := by
 obtain ⟨A, c, rfl, _⟩ := SliceOf.shape h
 obtain ⟨_, _, _, hA⟩ := Row.el KByte h ht
 obtain ⟨p, rfl⟩ := Option.isSome_iff_exists.1 hA
 have hr := run_convert_bytes_back (P := P) w src dt e p c t hs he hd fun j hj => by
  have := CA.first (Row.ce KByte h (List.getElem?_eq_getElem hj) rfl w (Only.refl _ _))
  rw [← this]
  show _ = w.cell? ((Option.getD (some p) ⟨0, 0, none⟩).add (j * 1))
  rw [Nat.mul_one]; rfl
 simp [execOp, H.eval hx, hr, strV]
end
namespace Wr
theorem dig_len {k : Nat} : Lib.decDigits (-(-((k : Nat) : Int))).toNat = Lib.itoa (k : Int) := by
 rw [Int.neg_neg]; unfold Lib.itoa; rw [if_neg (by omega)]
theorem intE_neg {n : Int} (h : n < 0) : intE n = ([45] ++ Lib.decDigits (-n).toNat) ++ [59] := by
 unfold intE Lib.itoa; rw [if_pos h, show n.natAbs = (-n).toNat by omega]; rfl
theorem intE_pos {n : Int} (h : ¬ n < 0) : intE n = Lib.decDigits (-(-n)).toNat ++ [59] := by
 unfold intE Lib.itoa; rw [if_neg h, Int.neg_neg]
theorem textE_r {t : Str} : textE t = Lib.decDigits (-(-((t.length : Nat) : Int))).toNat ++ [58] ++ t ++ [44] := by
 rw [dig_len]; rfl
end Wr
theorem digits_k (k : Nat) : ∀ (w : World) (n : Int), n = -(k : Int) → k ≤ 9223372036854775808 → Calls Tryz.prog 106 [.int .i64 n].toArray w (Fix (strV (Lib.decDigits k)) w) := by
 induction k using Nat.strongRecOn
 rename_i k ih
 intro w n hn hk
 have hrm : Int.tmod n 10 = -((k % 10 : Nat) : Int) := by subst hn; rw [Int.neg_tmod]; rfl
 have hqt : Int.tdiv n 10 = -((k / 10 : Nat) : Int) := by subst hn; rw [Int.neg_tdiv]; rfl
 obtain ⟨d, hd⟩ : ∃ d : UInt8, d = UInt8.ofNat (48 + k % 10) := ⟨_, rfl⟩
 have hd2 : d.toNat = 48 + k % 10 := by rw [hd]; exact dig_byte _ (Nat.mod_lt _ (by decide))
 refine calls_start Tryz.func106 rfl rfl ?_
 intro az Z
 rw [Tryz.ntmps106] at Z
 refine wp_seq_k fun _ k1 => wp_region_lit ?_
 refine L (r_as Z rfl) Z rfl ?_; clear Z az; intro az Z
 refine k1 _ _ (wp_seq_k fun _ k2 => wp_region_lit ?_)
 refine L (r_mv Z rfl) Z rfl ?_; clear Z az; intro az Z
 refine L (r_remI Z rfl rfl (by decide)) Z rfl ?_; clear Z az; intro az Z
 have i3 : I64 ((48 - (Int.tmod n 10))) := by unfold I64; omega
 refine L (r_subI (r := (48 - (Int.tmod n 10))) Z rfl rfl rfl i3) Z rfl ?_; clear Z az; intro az Z
 refine L (r_cvI (q := ((d.toNat : Nat) : Int)) Tryz.underlying3 Tryz.underlying5 Z rfl (by rw [hd2]; omega) (by omega)) Z rfl ?_; clear Z az; intro az Z
 obtain ⟨A4, w5, hw, hA, r6, o7⟩ := Row.made (w := w) KByte (e := 5) ([d] : List UInt8) (by simp only [List.length_cons, List.length_nil]; unfold maxLen; omega)
 refine L (r_bs (z := .int .u8 (0)) (size := 1) (vs := [(0, .int .u8 (((d.toNat : Nat) : Int)))]) (cs := List.flatMap KByte.cells [d]) Tryz.underlying116 Tryz.sizeOf5 Tryz.zeroValue5 rfl (Fr.evalps Z rfl) (by kernel_rfl)) Z rfl ?_
 rw [← hw, ← hA]; clear Z az; intro az Z
 clear hw hA
 have ok8 : ∀ zq ∈ ([d] : List UInt8), KByte.ok zq := by intro zq hx; simp only [List.mem_cons, List.not_mem_nil, or_false] at hx; rcases hx with rfl <;> first | exact True.intro
 have h9 := Row.own KByte r6 ok8
 have h10 := SliceOf.pl h9
 refine L (r_cvB Tryz.underlying116 Tryz.underlying5 Tryz.underlying9 Z rfl h10 (Nat.zero_lt_one)) Z rfl ?_; clear Z az; intro az Z
 refine L (r_as Z rfl) Z rfl ?_; clear Z az; intro az Z
 refine k2 _ _ (wp_seq_k fun _ k11 => ?_)
 refine wp_seq_k fun _ k12 => wp_region_lit ?_
 refine L (r_mv Z rfl) Z rfl ?_; clear Z az; intro az Z
 refine L (r_gtI Z rfl rfl) Z rfl ?_; clear Z az; intro az Z
 refine k12 _ _ ?_
 refine br Z rfl (fun hc13 => ?_) (fun hc13 => ?_)
 ·
  have p14 := of_decide_eq_true hc13
  refine wp_seq_k fun _ k15 => wp_region_lit ?_
  refine L (r_mv Z rfl) Z rfl ?_; clear Z az; intro az Z
  refine L (r_as Z rfl) Z rfl ?_; clear Z az; intro az Z
  refine k15 _ _ ?_
  refine wp_ret ?_
  show bodyPost _ _ _ .ret _ _
  refine ret_of (vs := [strV ([d])]) Z Tryz.results106 ⟨rfl, trivial⟩ ?_
  have hk3 : k < 10 := by omega
  rw [dec_small hk3, show k = k % 10 by omega, ← hd]; exact ⟨rfl, o7⟩
 ·
  have p16 := of_decide_eq_false hc13
  refine wp_skip ?_
  refine k11 _ _ (wp_seq_k fun _ k17 => wp_region_lit ?_)
  refine L (r_mv Z rfl) Z rfl ?_; clear Z az; intro az Z
  refine L (r_quoI Z rfl rfl (by decide) (by unfold I64; omega)) Z rfl ?_; clear Z az; intro az Z
  have hk2 : ¬ k < 10 := by omega
  have hdl := dec_len (k / 10) 19 (by omega)
  refine LCV (v := strV (Lib.decDigits (k / 10))) Z rfl rfl Tryz.call106 (ih (k / 10) (by omega) _ _ (by omega) (by omega)) rfl fun w18 o19 => ?_; clear Z az; intro az Z
  refine L (r_mv Z rfl) Z rfl ?_; clear Z az; intro az Z
  refine L (r_addS Z rfl rfl (by (try simp only [List.length_append, List.length_cons, List.length_nil]); omega)) Z rfl ?_; clear Z az; intro az Z
  refine L (r_as Z rfl) Z rfl ?_; clear Z az; intro az Z
  refine k17 _ _ ?_
  refine wp_ret ?_
  show bodyPost _ _ _ .ret _ _
  refine ret_of (vs := [strV (Lib.decDigits (k / 10) ++ [d])]) Z Tryz.results106 ⟨rfl, trivial⟩ ?_
  have O20 : Only NoF w w18 := (Only.trans' o7 o19)
  rw [dec_big hk2, ← hd]; exact ⟨rfl, O20⟩
theorem digits_len {n : Int} (h : -9223372036854775808 ≤ n ∧ n ≤ 0) : (Lib.decDigits (-n).toNat).length ≤ 20 := dec_len _ 19 (by omega)
theorem digits_v (w : World) (n : Int) (h : -9223372036854775808 ≤ n ∧ n ≤ 0) : Calls Tryz.prog 106 [.int .i64 n].toArray w (Fix (strV (Lib.decDigits (-n).toNat)) w) := digits_k _ _ _ (by omega) (by omega)
theorem vInt_v (w : World) (n : Int) (hn : Wr.Ok n) : Calls Tryz.prog 105 [.int .i64 n].toArray w (Fix (strV (Wr.intE n)) w) := by
 refine calls_start Tryz.func105 rfl rfl ?_
 intro az Z
 rw [Tryz.ntmps105] at Z
 refine wp_seq_k fun _ k1 => wp_region_lit ?_
 refine L (r_as Z rfl) Z rfl ?_; clear Z az; intro az Z
 refine k1 _ _ (wp_seq_k fun _ k2 => ?_)
 refine wp_seq_k fun _ k3 => wp_region_lit ?_
 refine L (r_mv Z rfl) Z rfl ?_; clear Z az; intro az Z
 refine L (r_ltI Z rfl rfl) Z rfl ?_; clear Z az; intro az Z
 refine k3 _ _ ?_
 refine br Z rfl (fun hc4 => ?_) (fun hc4 => ?_)
 ·
  have p5 := of_decide_eq_true hc4
  refine wp_seq_k fun _ k6 => wp_region_lit ?_
  refine L (r_mv Z rfl) Z rfl ?_; clear Z az; intro az Z
  have hdl := digits_len (n := n) (by unfold Wr.Ok at hn; omega)
  refine LCV (v := strV (Lib.decDigits (-n).toNat)) Z rfl rfl Tryz.call106 (digits_v _ n (by unfold Wr.Ok at hn; omega)) rfl fun w7 o8 => ?_; clear Z az; intro az Z
  refine L (r_addS Z rfl rfl (by (try simp only [List.length_append, List.length_cons, List.length_nil]); unfold Wr.Ok at hn; omega)) Z rfl ?_; clear Z az; intro az Z
  refine L (r_addS Z rfl rfl (by (try simp only [List.length_append, List.length_cons, List.length_nil]); unfold Wr.Ok at hn; omega)) Z rfl ?_; clear Z az; intro az Z
  refine L (r_as Z rfl) Z rfl ?_; clear Z az; intro az Z
  refine k6 _ _ ?_
  refine wp_ret ?_
  show bodyPost _ _ _ .ret _ _
  refine ret_of (vs := [strV ([45] ++ Lib.decDigits (-n).toNat ++ [59])]) Z Tryz.results105 ⟨rfl, trivial⟩ ?_
  rw [Wr.intE_neg (of_decide_eq_true hc4)]; exact ⟨rfl, o8⟩
 ·
  have p9 := of_decide_eq_false hc4
  refine wp_skip ?_
  refine k2 _ _ (wp_seq_k fun _ k10 => wp_region_lit ?_)
  refine L (r_mv Z rfl) Z rfl ?_; clear Z az; intro az Z
  have i11 : I64 (-(n)) := by unfold I64; unfold Wr.Ok at hn; omega
  refine L (r_neg (r := -(n)) Z rfl rfl i11) Z rfl ?_; clear Z az; intro az Z
  have hdl := digits_len (n := -(n)) (by unfold Wr.Ok at hn; omega)
  refine LCV (v := strV (Lib.decDigits (-(-(n))).toNat)) Z rfl rfl Tryz.call106 (digits_v _ (-(n)) (by unfold Wr.Ok at hn; omega)) rfl fun w12 o13 => ?_; clear Z az; intro az Z
  refine L (r_addS Z rfl rfl (by (try simp only [List.length_append, List.length_cons, List.length_nil]); unfold Wr.Ok at hn; omega)) Z rfl ?_; clear Z az; intro az Z
  refine L (r_as Z rfl) Z rfl ?_; clear Z az; intro az Z
  refine k10 _ _ ?_
  refine wp_ret ?_
  show bodyPost _ _ _ .ret _ _
  refine ret_of (vs := [strV (Lib.decDigits (-(-(n))).toNat ++ [59])]) Z Tryz.results105 ⟨rfl, trivial⟩ ?_
  rw [Wr.intE_pos (of_decide_eq_false hc4)]; exact ⟨rfl, o13⟩
theorem vNum_v (w : World) (n : Int) (hn : Wr.Ok n) : Calls Tryz.prog 72 [.int .i64 n].toArray w (Fix (strV (Wr.numE n)) w) := by
 refine calls_start Tryz.func72 rfl rfl ?_
 intro az Z
 rw [Tryz.ntmps72] at Z
 refine wp_seq_k fun _ k1 => wp_region_lit ?_
 refine L (r_as Z rfl) Z rfl ?_; clear Z az; intro az Z
 refine k1 _ _ (wp_seq_k fun _ k2 => ?_)
 refine wp_seq_k fun _ k3 => wp_region_lit ?_
 refine L (r_mv Z rfl) Z rfl ?_; clear Z az; intro az Z
 refine L (r_ltI Z rfl rfl) Z rfl ?_; clear Z az; intro az Z
 refine k3 _ _ ?_
 refine br Z rfl (fun hc4 => ?_) (fun hc4 => ?_)
 ·
  have p5 := of_decide_eq_true hc4
  refine wp_seq_k fun _ k6 => wp_region_lit ?_
  refine L (r_as Z rfl) Z rfl ?_; clear Z az; intro az Z
  refine k6 _ _ ?_
  refine wp_ret ?_
  show bodyPost _ _ _ .ret _ _
  refine ret_of (vs := [strV ([])]) Z Tryz.results72 ⟨rfl, trivial⟩ ?_
  unfold Wr.numE; rw [if_pos (of_decide_eq_true hc4)]; exact ⟨rfl, (Only.refl NoF w)⟩
 ·
  have p7 := of_decide_eq_false hc4
  refine wp_skip ?_
  refine k2 _ _ (wp_seq_k fun _ k8 => wp_region_lit ?_)
  refine L (r_mv Z rfl) Z rfl ?_; clear Z az; intro az Z
  refine LCV (v := strV (Wr.intE n)) Z rfl rfl Tryz.call105 (vInt_v _ n hn) rfl fun w9 o10 => ?_; clear Z az; intro az Z
  refine L (r_as Z rfl) Z rfl ?_; clear Z az; intro az Z
  refine k8 _ _ ?_
  refine wp_ret ?_
  show bodyPost _ _ _ .ret _ _
  refine ret_of (vs := [strV (Wr.intE n)]) Z Tryz.results72 ⟨rfl, trivial⟩ ?_
  unfold Wr.numE; rw [if_neg (of_decide_eq_false hc4)]; exact ⟨rfl, o10⟩
theorem vText_v (w : World) (t : Str) (ht : t.length ≤ 1000000000) : Calls Tryz.prog 74 [strV t].toArray w (Fix (strV (Wr.textE t)) w) := by
 refine calls_start Tryz.func74 rfl rfl ?_
 intro az Z
 rw [Tryz.ntmps74] at Z
 refine wp_seq_k fun _ k1 => wp_region_lit ?_
 refine L (r_as Z rfl) Z rfl ?_; clear Z az; intro az Z
 refine k1 _ _ (wp_seq_k fun _ k2 => wp_region_lit ?_)
 refine L (r_mv Z rfl) Z rfl ?_; clear Z az; intro az Z
 refine L (r_lenS Tryz.underlying9 Z rfl) Z rfl ?_; clear Z az; intro az Z
 have i3 : I64 (-(((List.length (t) : Nat) : Int))) := by unfold I64; omega
 refine L (r_neg (r := -(((List.length (t) : Nat) : Int))) Z rfl rfl i3) Z rfl ?_; clear Z az; intro az Z
 have hdl := digits_len (n := -(((List.length (t) : Nat) : Int))) (by omega)
 refine LCV (v := strV (Lib.decDigits (-(-(((List.length (t) : Nat) : Int)))).toNat)) Z rfl rfl Tryz.call106 (digits_v _ (-(((List.length (t) : Nat) : Int))) (by omega)) rfl fun w4 o5 => ?_; clear Z az; intro az Z
 refine L (r_addS Z rfl rfl (by (try simp only [List.length_append, List.length_cons, List.length_nil]); omega)) Z rfl ?_; clear Z az; intro az Z
 refine L (r_mv Z rfl) Z rfl ?_; clear Z az; intro az Z
 refine L (r_addS Z rfl rfl (by (try simp only [List.length_append, List.length_cons, List.length_nil]); omega)) Z rfl ?_; clear Z az; intro az Z
 refine L (r_addS Z rfl rfl (by (try simp only [List.length_append, List.length_cons, List.length_nil]); omega)) Z rfl ?_; clear Z az; intro az Z
 refine L (r_as Z rfl) Z rfl ?_; clear Z az; intro az Z
 refine k2 _ _ ?_
 refine wp_ret ?_
 show bodyPost _ _ _ .ret _ _
 refine ret_of (vs := [strV (Lib.decDigits (-(-(((List.length (t) : Nat) : Int)))).toNat ++ [58] ++ t ++ [44])]) Z Tryz.results74 ⟨rfl, trivial⟩ ?_
 rw [Wr.textE_r]; exact ⟨rfl, o5⟩
theorem vNums_v_ {w : World} {l : List Int} {A1 : Option Addr} {c1 : Nat} (f1 : IntsV w (.slice A1 l.length c1) l) (hl : l.length ≤ 1000000) (hb : (l.flatMap Wr.intE).length ≤ 1000000000) : Calls Tryz.prog 73 [.slice A1 l.length c1].toArray w (Fix (strV (Wr.numsE l)) w) := by
 refine calls_start Tryz.func73 rfl rfl ?_
 intro az Z
 rw [Tryz.ntmps73] at Z
 refine wp_seq_k fun _ k1 => wp_region_lit ?_
 refine L (r_as Z rfl) Z rfl ?_; clear Z az; intro az Z
 refine k1 _ _ (wp_seq_k fun _ k2 => wp_region_lit ?_)
 refine L (r_mv Z rfl) Z rfl ?_; clear Z az; intro az Z
 refine L (r_lenL Tryz.underlying37 Z rfl) Z rfl ?_; clear Z az; intro az Z
 have i3 : I64 (-(((l.length : Nat) : Int))) := by unfold I64; omega
 refine L (r_neg (r := -(((l.length : Nat) : Int))) Z rfl rfl i3) Z rfl ?_; clear Z az; intro az Z
 have hdl := digits_len (n := -(((l.length : Nat) : Int))) (by omega)
 refine LCV (v := strV (Lib.decDigits (-(-(((l.length : Nat) : Int)))).toNat)) Z rfl rfl Tryz.call106 (digits_v _ (-(((l.length : Nat) : Int))) (by omega)) rfl fun w4 o5 => ?_; clear Z az; intro az Z
 refine L (r_addS Z rfl rfl (by (try simp only [List.length_append, List.length_cons, List.length_nil]); omega)) Z rfl ?_; clear Z az; intro az Z
 refine L (r_as Z rfl) Z rfl ?_; clear Z az; intro az Z
 refine k2 _ _ (wp_seq_k fun _ k6 => ?_)
 refine wp_seq_k fun _ k7 => wp_region_lit ?_
 refine L (r_as Z rfl) Z rfl ?_; clear Z az; intro az Z
 refine k7 _ _ ?_
 refine wp_block ?_
 refine wp_loop_m (fun mz az W => ∃ k : Nat, ∃ X : Str, mz = l.length - k ∧ Fr 25 [(0, .slice A1 (l.length) c1), (4, .int .i64 ((k : Int))), (3, strV (X))] az ∧ (k ≤ l.length) ∧ (X = Lib.itoa ((l.length : Nat) : Int) ++ [91] ++ List.flatMap Wr.intE (List.take k l)) ∧ Only NoF w4 W) ?_ ?_
 ·
  exact ⟨_, 0, _, rfl, Z.cut ⟨rfl, rfl, rfl, trivial⟩, Nat.zero_le _, (by rw [Wr.dig_len]; simp), (Only.refl NoF w4)⟩
 clear Z az
 rintro mz az w8 ⟨k, X, hm10, Z, hk, hX, o9⟩
 have hft := flat_take_le Wr.intE l k
 have hXl : X.length ≤ 21 + (List.flatMap Wr.intE (List.take k l)).length := by have hq := itoa_len ((l.length : Nat) : Int) (by omega) (by omega); rw [hX]; simp only [List.length_append, List.length_cons, List.length_nil]; omega
 refine wp_seq_k fun _ k11 => ?_
 refine wp_seq_k fun _ k12 => wp_region_lit ?_
 refine L (r_mv Z rfl) Z rfl ?_; clear Z az; intro az Z
 refine L (r_mv Z rfl) Z rfl ?_; clear Z az; intro az Z
 refine L (r_lenL Tryz.underlying37 Z rfl) Z rfl ?_; clear Z az; intro az Z
 refine L (r_ltI Z rfl rfl) Z rfl ?_; clear Z az; intro az Z
 refine k12 _ _ ?_
 refine br Z rfl (fun hc13 => ?_) (fun hc13 => ?_)
 ·
  have p14 := of_decide_eq_true hc13
  refine wp_skip ?_
  refine k11 _ _ (wp_seq_k fun _ k15 => ?_)
  refine wp_block ?_
  refine wp_region_lit ?_
  refine L (r_mv Z rfl) Z rfl ?_; clear Z az; intro az Z
  refine L (r_mv Z rfl) Z rfl ?_; clear Z az; intro az Z
  refine L (r_mv Z rfl) Z rfl ?_; clear Z az; intro az Z
  have hk16 : k < (l).length := by omega
  have O22 : Only NoF w w8 := (Only.trans' o5 o9)
  have h23 := (SliceOf.kp f1 O22 (fun _ _ h => h) (fun _ _ _ _ h => h))
  obtain ⟨m17, hm18, ok19, hA20⟩ := Row.el KInt h23 hk16
  have E21 : ∀ W, Only NoF w8 W → CA W (eA A1 1 (k)) [.int .i64 (m17)] := Row.ce KInt h23 hm18 rfl
  refine L (r_ia (k := k) (size := 1) Tryz.underlying37 Tryz.sizeOf3 Z rfl rfl rfl hk16 hA20) Z rfl ?_; clear Z az; intro az Z
  refine L (r_ld Tryz.isAgg3 Z rfl (CA.first (E21 _ (Only.refl NoF w8)))) Z rfl ?_; clear Z az; intro az Z
  have hst := flat_step Wr.intE hm18
  have hst2 := flat_take_le Wr.intE l (k + 1); rw [hst, List.length_append] at hst2
  refine LCV (v := strV (Wr.intE m17)) Z rfl rfl Tryz.call105 (vInt_v _ m17 (wr_ok ok19)) rfl fun w24 o25 => ?_; clear Z az; intro az Z
  refine L (r_addS Z rfl rfl (by (try simp only [List.length_append, List.length_cons, List.length_nil]); omega)) Z rfl ?_; clear Z az; intro az Z
  refine L (r_as Z rfl) Z rfl ?_; clear Z az; intro az Z
  refine k15 _ _ ?_
  refine wp_region_lit ?_
  refine L (r_mv Z rfl) Z rfl ?_; clear Z az; intro az Z
  have i26 : I64 (((k : Int) + 1)) := by unfold I64; omega
  refine L (r_addI (r := ((k : Int) + 1)) Z rfl rfl rfl i26) Z rfl ?_; clear Z az; intro az Z
  refine L (r_as Z rfl) Z rfl ?_; clear Z az; intro az Z
  have O27 : Only NoF w4 w24 := (Only.trans' o9 o25)
  exact ⟨_, (by omega), k + 1, _, rfl, Z.cut ⟨rfl, rfl, rfl, trivial⟩, (by omega), (by rw [hst, hX]; simp only [List.append_assoc]), O27⟩
 ·
  have p28 := of_decide_eq_false hc13
  refine wp_exit ?_
  refine th_exit ?_
  refine th_exit ?_
  refine ib_hit ?_
  refine k6 _ _ (wp_seq_k fun _ k29 => wp_region_lit ?_)
  refine L (r_mv Z rfl) Z rfl ?_; clear Z az; intro az Z
  refine L (r_addS Z rfl rfl (by (try simp only [List.length_append, List.length_cons, List.length_nil]); omega)) Z rfl ?_; clear Z az; intro az Z
  refine L (r_as Z rfl) Z rfl ?_; clear Z az; intro az Z
  refine k29 _ _ ?_
  refine wp_ret ?_
  show bodyPost _ _ _ .ret _ _
  refine ret_of (vs := [strV (X ++ [93])]) Z Tryz.results73 ⟨rfl, trivial⟩ ?_
  rw [List.take_of_length_le (show l.length ≤ k by omega)] at hX
  have O30 : Only NoF w w8 := (Only.trans' o5 o9)
  exact ⟨congrArg (fun x => Ending.returned (strV (x ++ [93]))) hX, O30⟩
theorem vNums_v {w : World} {v : Value} {l : List Int} (h : IntsV w v l) (hl : l.length ≤ 1000000) (hb : (l.flatMap Wr.intE).length ≤ 1000000000) : Calls Tryz.prog 73 #[v] w (Fix (strV (Wr.numsE l)) w) := by
 obtain ⟨A1, c1, rfl, _⟩ := SliceOf.shape h
 exact vNums_v_ h hl hb
end
section
open Go.RowKit
theorem vback_v (w : World) (p : Str) (hp : p.length ≤ 1000000000) : Calls Tryz.prog 137 [strV p].toArray w (BackTo p w) := by
 refine calls_start Tryz.func137 rfl rfl ?_
 intro az Z
 rw [Tryz.ntmps137] at Z
 refine wp_seq_k fun _ k1 => wp_region_lit ?_
 refine L (r_as Z rfl) Z rfl ?_; clear Z az; intro az Z
 refine L (r_as Z rfl) Z rfl ?_; clear Z az; intro az Z
 refine k1 _ _ (wp_seq_k fun _ k2 => wp_region_lit ?_)
 refine L (r_as Z rfl) Z rfl ?_; clear Z az; intro az Z
 refine k2 _ _ (wp_seq_k fun _ k3 => ?_)
 refine wp_seq_k fun _ k4 => wp_region_lit ?_
 refine L (r_mv Z rfl) Z rfl ?_; clear Z az; intro az Z
 refine L (r_lenS Tryz.underlying9 Z rfl) Z rfl ?_; clear Z az; intro az Z
 refine L (r_gtI Z rfl rfl) Z rfl ?_; clear Z az; intro az Z
 refine L (r_mv Z rfl) Z rfl ?_; clear Z az; intro az Z
 refine LG Z rfl rfl gd_t (fun hb => r_mv Z rfl) rfl ?_; clear Z az; intro az Z
 refine LG Z rfl rfl gd_t (fun hb => r_ixD (k := 0) Tryz.underlying9 Z (evg hb rfl) rfl rfl (by have := of_decide_eq_true hb; omega)) rfl ?_; clear Z az; intro az Z
 refine LG Z rfl rfl gd_t (fun hb => r_eqI Z (evg hb rfl) rfl) rfl ?_; clear Z az; intro az Z
 refine L (r_and Z rfl rfl rfl) Z rfl ?_; clear Z az; intro az Z
 refine k4 _ _ ?_
 refine br Z rfl (fun hc5 => ?_) (fun hc5 => ?_)
 ·
  have p6 := of_decide_eq_true (and_t hc5).1
  have p7 := of_decide_eq_true (and_t hc5).2
  have hF := Wr.sgn1 hc5
  have hpl : 1 ≤ List.length p := by omega
  refine wp_region_lit ?_
  refine L (r_as Z rfl) Z rfl ?_; clear Z az; intro az Z
  refine k3 _ _ (wp_seq_k fun _ k8 => wp_region_lit ?_)
  refine L (r_as Z rfl) Z rfl ?_; clear Z az; intro az Z
  refine k8 _ _ (wp_seq_k fun _ k9 => ?_)
  refine wp_seq_k fun _ k10 => wp_region_lit ?_
  refine L (r_mv Z rfl) Z rfl ?_; clear Z az; intro az Z
  refine L (r_as Z rfl) Z rfl ?_; clear Z az; intro az Z
  refine k10 _ _ ?_
  refine wp_block ?_
  refine wp_loop_m (fun mz az W => ∃ i : Nat, ∃ N : Int, mz = p.length - i ∧ Fr 54 [(0, strV (p)), (4, .int .i64 (1)), (6, .int .i64 ((i : Int))), (5, .int .i64 (N))] az ∧ (1 ≤ i) ∧ (i ≤ p.length) ∧ (Wr.Ok N) ∧ (N = ((p.drop 1).take (i - 1)).foldl Wr.bstep 0) ∧ Only NoF w W) ?_ ?_
  ·
   exact ⟨_, 1, 0, rfl, Z.cut ⟨rfl, rfl, rfl, rfl, trivial⟩, (Nat.le_refl _), (by omega), (by unfold Wr.Ok; omega), (by simp), (Only.refl NoF w)⟩
  clear Z az
  rintro mz az w11 ⟨i, N, hm13, Z, hi1, hi2, hNo, hN, o12⟩
  refine wp_seq_k fun _ k14 => ?_
  refine wp_seq_k fun _ k15 => wp_region_lit ?_
  refine L (r_mv Z rfl) Z rfl ?_; clear Z az; intro az Z
  refine L (r_mv Z rfl) Z rfl ?_; clear Z az; intro az Z
  refine L (r_lenS Tryz.underlying9 Z rfl) Z rfl ?_; clear Z az; intro az Z
  refine L (r_ltI Z rfl rfl) Z rfl ?_; clear Z az; intro az Z
  refine k15 _ _ ?_
  refine br Z rfl (fun hc16 => ?_) (fun hc16 => ?_)
  ·
   have p17 := of_decide_eq_true hc16
   refine wp_skip ?_
   refine k14 _ _ (wp_seq_k fun _ k18 => ?_)
   refine wp_block ?_
   refine wp_seq_k fun _ k19 => ?_
   refine wp_seq_k fun _ k20 => wp_region_lit ?_
   refine L (r_mv Z rfl) Z rfl ?_; clear Z az; intro az Z
   refine L (r_mv Z rfl) Z rfl ?_; clear Z az; intro az Z
   refine L (r_ixD (k := i) Tryz.underlying9 Z rfl rfl rfl (by omega)) Z rfl ?_; clear Z az; intro az Z
   refine L (r_ltI Z rfl rfl) Z rfl ?_; clear Z az; intro az Z
   refine L (r_mv Z rfl) Z rfl ?_; clear Z az; intro az Z
   refine LG Z rfl rfl gd_f (fun hb => r_mv Z rfl) rfl ?_; clear Z az; intro az Z
   refine LG Z rfl rfl gd_f (fun hb => r_mv Z rfl) rfl ?_; clear Z az; intro az Z
   refine LG Z rfl rfl gd_f (fun hb => r_ixD (k := i) Tryz.underlying9 Z (evg hb rfl) (evg hb rfl) rfl (by omega)) rfl ?_; clear Z az; intro az Z
   refine LG Z rfl rfl gd_f (fun hb => r_gtI Z (evg hb rfl) rfl) rfl ?_; clear Z az; intro az Z
   refine L (r_or Z rfl rfl rfl) Z rfl ?_; clear Z az; intro az Z
   refine L (r_mv Z rfl) Z rfl ?_; clear Z az; intro az Z
   refine LG Z rfl rfl gd_f (fun hb => r_mv Z rfl) rfl ?_; clear Z az; intro az Z
   refine LG Z rfl rfl gd_f (fun hb => r_gtI Z (evg hb rfl) rfl) rfl ?_; clear Z az; intro az Z
   refine L (r_or Z rfl rfl rfl) Z rfl ?_; clear Z az; intro az Z
   refine k20 _ _ ?_
   refine br Z rfl (fun hc21 => ?_) (fun hc21 => ?_)
   ·
    have d22 := hc21
    refine wp_seq_k fun _ k23 => wp_region_lit ?_
    refine L (r_as Z rfl) Z rfl ?_; clear Z az; intro az Z
    refine L (r_as Z rfl) Z rfl ?_; clear Z az; intro az Z
    refine k23 _ _ ?_
    refine wp_ret ?_
    show bodyPost _ _ _ .ret _ _
    refine ret_of (vs := [.int .i64 (0), .bool (false)]) Z Tryz.results137 ⟨rfl, rfl, trivial⟩ ?_
    exact ⟨_, _, rfl, (by unfold Wr.Ok; omega), (fun h => by cases h), (fun _ => Wr.back_bad hF hi1 (by omega) hc21), o12⟩
   ·
    have p24 := of_decide_eq_false (or_f (or_f hc21).1).1
    have p25 := of_decide_eq_false (or_f (or_f hc21).1).2
    have p26 := of_decide_eq_false (or_f hc21).2
    obtain ⟨hg1, hg2, hg3⟩ := Wr.back_good hc21
    refine wp_skip ?_
    refine k19 _ _ ?_
    refine wp_region_lit ?_
    refine L (r_mv Z rfl) Z rfl ?_; clear Z az; intro az Z
    refine L (r_mulW Z rfl rfl) Z rfl ?_; clear Z az; intro az Z
    refine L (r_mv Z rfl) Z rfl ?_; clear Z az; intro az Z
    refine L (r_mv Z rfl) Z rfl ?_; clear Z az; intro az Z
    refine L (r_ixD (k := i) Tryz.underlying9 Z rfl rfl rfl (by omega)) Z rfl ?_; clear Z az; intro az Z
    refine L (r_subU Z rfl rfl (by omega)) Z rfl ?_; clear Z az; intro az Z
    refine L (r_cvJ Tryz.underlying5 Tryz.underlying3 Z rfl (by omega)) Z rfl ?_; clear Z az; intro az Z
    refine L (r_subW Z rfl rfl) Z rfl ?_; clear Z az; intro az Z
    refine L (r_as Z rfl) Z rfl ?_; clear Z az; intro az Z
    refine k18 _ _ ?_
    refine wp_region_lit ?_
    refine L (r_mv Z rfl) Z rfl ?_; clear Z az; intro az Z
    have i27 : I64 (((i : Int) + 1)) := by unfold I64; omega
    refine L (r_addI (r := ((i : Int) + 1)) Z rfl rfl rfl i27) Z rfl ?_; clear Z az; intro az Z
    refine L (r_as Z rfl) Z rfl ?_; clear Z az; intro az Z
    exact ⟨_, (by omega), i + 1, Wr.bstep N (List.getD p i 0), rfl, Z.cut ⟨rfl, rfl, rfl, rfl, trivial⟩, (by omega), (by omega), (Wr.wrap_ok _), (Wr.fold_next hi1 (by omega) hN), o12⟩
  ·
   have p28 := of_decide_eq_false hc16
   refine wp_exit ?_
   refine th_exit ?_
   refine th_exit ?_
   refine ib_hit ?_
   refine k9 _ _ (wp_seq_k fun _ k29 => ?_)
   refine wp_seq_k fun _ k30 => wp_region_lit ?_
   refine L (r_mv Z rfl) Z rfl ?_; clear Z az; intro az Z
   refine L (r_eqL (b := false) Z rfl rfl (by decide)) Z rfl ?_; clear Z az; intro az Z
   refine k30 _ _ ?_
   refine br_false Z rfl ?_
   refine wp_skip ?_
   refine k29 _ _ (wp_seq_k fun _ k31 => wp_region_lit ?_)
   refine L (r_mv Z rfl) Z rfl ?_; clear Z az; intro az Z
   refine L (r_mv Z rfl) Z rfl ?_; clear Z az; intro az Z
   refine LCV (v := strV (Wr.intE N)) Z rfl rfl Tryz.call105 (vInt_v _ N hNo) rfl fun w32 o33 => ?_; clear Z az; intro az Z
   refine L (r_mv Z rfl) Z rfl ?_; clear Z az; intro az Z
   refine L (r_addS Z rfl rfl (by (try simp only [List.length_append, List.length_cons, List.length_nil]); omega)) Z rfl ?_; clear Z az; intro az Z
   refine L (r_eqS Z rfl rfl) Z rfl ?_; clear Z az; intro az Z
   refine L (r_as Z rfl) Z rfl ?_; clear Z az; intro az Z
   refine L (r_as Z rfl) Z rfl ?_; clear Z az; intro az Z
   refine k31 _ _ ?_
   refine wp_ret ?_
   show bodyPost _ _ _ .ret _ _
   refine ret_of (vs := [.int .i64 (N), .bool (decide (Wr.intE N = p ++ [59]))]) Z Tryz.results137 ⟨rfl, rfl, trivial⟩ ?_
   have O34 : Only NoF w w32 := (Only.trans' o12 o33)
   exact ⟨_, _, rfl, hNo, (fun h => Wr.back_yes hNo h), (fun h => Wr.back_no1 hF (by omega) hN h), O34⟩
 ·
  have d35 := hc5
  have hF := Wr.sgn0 hc5
  refine wp_skip ?_
  refine k3 _ _ (wp_seq_k fun _ k36 => wp_region_lit ?_)
  refine L (r_as Z rfl) Z rfl ?_; clear Z az; intro az Z
  refine k36 _ _ (wp_seq_k fun _ k37 => ?_)
  refine wp_seq_k fun _ k38 => wp_region_lit ?_
  refine L (r_mv Z rfl) Z rfl ?_; clear Z az; intro az Z
  refine L (r_as Z rfl) Z rfl ?_; clear Z az; intro az Z
  refine k38 _ _ ?_
  refine wp_block ?_
  refine wp_loop_m (fun mz az W => ∃ i : Nat, ∃ N : Int, mz = p.length - i ∧ Fr 54 [(0, strV (p)), (4, .int .i64 (0)), (6, .int .i64 ((i : Int))), (5, .int .i64 (N))] az ∧ (0 ≤ i) ∧ (i ≤ p.length) ∧ (Wr.Ok N) ∧ (N = ((p.drop 0).take (i - 0)).foldl Wr.bstep 0) ∧ Only NoF w W) ?_ ?_
  ·
   exact ⟨_, 0, 0, rfl, Z.cut ⟨rfl, rfl, rfl, rfl, trivial⟩, (Nat.le_refl _), (Nat.zero_le _), (by unfold Wr.Ok; omega), (by simp), (Only.refl NoF w)⟩
  clear Z az
  rintro mz az w39 ⟨i, N, hm41, Z, hi1, hi2, hNo, hN, o40⟩
  refine wp_seq_k fun _ k42 => ?_
  refine wp_seq_k fun _ k43 => wp_region_lit ?_
  refine L (r_mv Z rfl) Z rfl ?_; clear Z az; intro az Z
  refine L (r_mv Z rfl) Z rfl ?_; clear Z az; intro az Z
  refine L (r_lenS Tryz.underlying9 Z rfl) Z rfl ?_; clear Z az; intro az Z
  refine L (r_ltI Z rfl rfl) Z rfl ?_; clear Z az; intro az Z
  refine k43 _ _ ?_
  refine br Z rfl (fun hc44 => ?_) (fun hc44 => ?_)
  ·
   have p45 := of_decide_eq_true hc44
   refine wp_skip ?_
   refine k42 _ _ (wp_seq_k fun _ k46 => ?_)
   refine wp_block ?_
   refine wp_seq_k fun _ k47 => ?_
   refine wp_seq_k fun _ k48 => wp_region_lit ?_
   refine L (r_mv Z rfl) Z rfl ?_; clear Z az; intro az Z
   refine L (r_mv Z rfl) Z rfl ?_; clear Z az; intro az Z
   refine L (r_ixD (k := i) Tryz.underlying9 Z rfl rfl rfl (by omega)) Z rfl ?_; clear Z az; intro az Z
   refine L (r_ltI Z rfl rfl) Z rfl ?_; clear Z az; intro az Z
   refine L (r_mv Z rfl) Z rfl ?_; clear Z az; intro az Z
   refine LG Z rfl rfl gd_f (fun hb => r_mv Z rfl) rfl ?_; clear Z az; intro az Z
   refine LG Z rfl rfl gd_f (fun hb => r_mv Z rfl) rfl ?_; clear Z az; intro az Z
   refine LG Z rfl rfl gd_f (fun hb => r_ixD (k := i) Tryz.underlying9 Z (evg hb rfl) (evg hb rfl) rfl (by omega)) rfl ?_; clear Z az; intro az Z
   refine LG Z rfl rfl gd_f (fun hb => r_gtI Z (evg hb rfl) rfl) rfl ?_; clear Z az; intro az Z
   refine L (r_or Z rfl rfl rfl) Z rfl ?_; clear Z az; intro az Z
   refine L (r_mv Z rfl) Z rfl ?_; clear Z az; intro az Z
   refine LG Z rfl rfl gd_f (fun hb => r_mv Z rfl) rfl ?_; clear Z az; intro az Z
   refine LG Z rfl rfl gd_f (fun hb => r_gtI Z (evg hb rfl) rfl) rfl ?_; clear Z az; intro az Z
   refine L (r_or Z rfl rfl rfl) Z rfl ?_; clear Z az; intro az Z
   refine k48 _ _ ?_
   refine br Z rfl (fun hc49 => ?_) (fun hc49 => ?_)
   ·
    have d50 := hc49
    refine wp_seq_k fun _ k51 => wp_region_lit ?_
    refine L (r_as Z rfl) Z rfl ?_; clear Z az; intro az Z
    refine L (r_as Z rfl) Z rfl ?_; clear Z az; intro az Z
    refine k51 _ _ ?_
    refine wp_ret ?_
    show bodyPost _ _ _ .ret _ _
    refine ret_of (vs := [.int .i64 (0), .bool (false)]) Z Tryz.results137 ⟨rfl, rfl, trivial⟩ ?_
    exact ⟨_, _, rfl, (by unfold Wr.Ok; omega), (fun h => by cases h), (fun _ => Wr.back_bad hF hi1 (by omega) hc49), o40⟩
   ·
    have p52 := of_decide_eq_false (or_f (or_f hc49).1).1
    have p53 := of_decide_eq_false (or_f (or_f hc49).1).2
    have p54 := of_decide_eq_false (or_f hc49).2
    obtain ⟨hg1, hg2, hg3⟩ := Wr.back_good hc49
    refine wp_skip ?_
    refine k47 _ _ ?_
    refine wp_region_lit ?_
    refine L (r_mv Z rfl) Z rfl ?_; clear Z az; intro az Z
    refine L (r_mulW Z rfl rfl) Z rfl ?_; clear Z az; intro az Z
    refine L (r_mv Z rfl) Z rfl ?_; clear Z az; intro az Z
    refine L (r_mv Z rfl) Z rfl ?_; clear Z az; intro az Z
    refine L (r_ixD (k := i) Tryz.underlying9 Z rfl rfl rfl (by omega)) Z rfl ?_; clear Z az; intro az Z
    refine L (r_subU Z rfl rfl (by omega)) Z rfl ?_; clear Z az; intro az Z
    refine L (r_cvJ Tryz.underlying5 Tryz.underlying3 Z rfl (by omega)) Z rfl ?_; clear Z az; intro az Z
    refine L (r_subW Z rfl rfl) Z rfl ?_; clear Z az; intro az Z
    refine L (r_as Z rfl) Z rfl ?_; clear Z az; intro az Z
    refine k46 _ _ ?_
    refine wp_region_lit ?_
    refine L (r_mv Z rfl) Z rfl ?_; clear Z az; intro az Z
    have i55 : I64 (((i : Int) + 1)) := by unfold I64; omega
    refine L (r_addI (r := ((i : Int) + 1)) Z rfl rfl rfl i55) Z rfl ?_; clear Z az; intro az Z
    refine L (r_as Z rfl) Z rfl ?_; clear Z az; intro az Z
    exact ⟨_, (by omega), i + 1, Wr.bstep N (List.getD p i 0), rfl, Z.cut ⟨rfl, rfl, rfl, rfl, trivial⟩, (by omega), (by omega), (Wr.wrap_ok _), (Wr.fold_next hi1 (by omega) hN), o40⟩
  ·
   have p56 := of_decide_eq_false hc44
   refine wp_exit ?_
   refine th_exit ?_
   refine th_exit ?_
   refine ib_hit ?_
   refine k37 _ _ (wp_seq_k fun _ k57 => ?_)
   refine wp_seq_k fun _ k58 => wp_region_lit ?_
   refine L (r_mv Z rfl) Z rfl ?_; clear Z az; intro az Z
   refine L (r_eqL (b := true) Z rfl rfl (by decide)) Z rfl ?_; clear Z az; intro az Z
   refine k58 _ _ ?_
   refine br_true Z rfl ?_
   refine wp_region_lit ?_
   refine L (r_mv Z rfl) Z rfl ?_; clear Z az; intro az Z
   refine L (r_negW Z rfl) Z rfl ?_; clear Z az; intro az Z
   refine L (r_as Z rfl) Z rfl ?_; clear Z az; intro az Z
   refine k57 _ _ (wp_seq_k fun _ k59 => wp_region_lit ?_)
   refine L (r_mv Z rfl) Z rfl ?_; clear Z az; intro az Z
   refine L (r_mv Z rfl) Z rfl ?_; clear Z az; intro az Z
   refine LCV (v := strV (Wr.intE (IntKind.i64.wrap (-N)))) Z rfl rfl Tryz.call105 (vInt_v _ (IntKind.i64.wrap (-N)) (Wr.wrap_ok _)) rfl fun w60 o61 => ?_; clear Z az; intro az Z
   refine L (r_mv Z rfl) Z rfl ?_; clear Z az; intro az Z
   refine L (r_addS Z rfl rfl (by (try simp only [List.length_append, List.length_cons, List.length_nil]); omega)) Z rfl ?_; clear Z az; intro az Z
   refine L (r_eqS Z rfl rfl) Z rfl ?_; clear Z az; intro az Z
   refine L (r_as Z rfl) Z rfl ?_; clear Z az; intro az Z
   refine L (r_as Z rfl) Z rfl ?_; clear Z az; intro az Z
   refine k59 _ _ ?_
   refine wp_ret ?_
   show bodyPost _ _ _ .ret _ _
   refine ret_of (vs := [.int .i64 ((IntKind.i64.wrap (-N))), .bool (decide (Wr.intE (IntKind.i64.wrap (-N)) = p ++ [59]))]) Z Tryz.results137 ⟨rfl, rfl, trivial⟩ ?_
   have O62 : Only NoF w w60 := (Only.trans' o40 o61)
   exact ⟨_, _, rfl, (Wr.wrap_ok _), (fun h => Wr.back_yes (Wr.wrap_ok _) h), (fun h => Wr.back_no0 hF (by omega) hN h), O62⟩
theorem vfail_v {w : World} {g : Nat} {s : Wr.Rd} (hB : Blk w g 136 [strV s.r, .bool s.b].toArray)  : Calls Tryz.prog 119 [.pointer (some ⟨g, 0, none⟩)].toArray w (VTo g (.int .i64 0) Wr.failed w) := by
 refine calls_start Tryz.func119 rfl rfl ?_
 intro az Z
 rw [Tryz.ntmps119] at Z
 refine wp_seq_k fun _ k1 => wp_region_lit ?_
 refine L (r_as Z rfl) Z rfl ?_; clear Z az; intro az Z
 refine k1 _ _ (wp_seq_k fun _ k2 => wp_region_lit ?_)
 refine L (r_mv Z rfl) Z rfl ?_; clear Z az; intro az Z
 refine L (r_nilP Z rfl) Z rfl ?_; clear Z az; intro az Z
 refine L (r_fa (m' := 0) Tryz.underlying136 rfl Tryz.sizeOf9 rfl Z rfl rfl) Z rfl ?_; clear Z az; intro az Z
 refine LSt (cs' := [strV ([]), .bool (s.b)]) Tryz.sizeOf9 Z rfl rfl rfl rfl rfl ⟨rfl, trivial⟩ hB rfl rfl fun w3 s4 B5 => ?_
 refine k2 _ _ (wp_seq_k fun _ k6 => wp_region_lit ?_)
 refine L (r_mv Z rfl) Z rfl ?_; clear Z az; intro az Z
 refine L (r_nilP Z rfl) Z rfl ?_; clear Z az; intro az Z
 refine L (r_fa (m' := 1) Tryz.underlying136 rfl Tryz.sizeOf4 rfl Z rfl rfl) Z rfl ?_; clear Z az; intro az Z
 refine LSt (cs' := [strV ([]), .bool (true)]) Tryz.sizeOf4 Z rfl rfl rfl rfl rfl ⟨rfl, trivial⟩ B5 rfl rfl fun w7 s8 B9 => ?_
 refine k6 _ _ (wp_seq_k fun _ k10 => wp_region_lit ?_)
 refine L (r_as Z rfl) Z rfl ?_; clear Z az; intro az Z
 refine k10 _ _ ?_
 refine wp_ret ?_
 show bodyPost _ _ _ .ret _ _
 refine ret_of (vs := [.int .i64 (0)]) Z Tryz.results119 ⟨rfl, trivial⟩ ?_
 exact ⟨rfl, B9, (Only.trans (Only.trans (Only.refl (oneF g) w) s4 (fun _ h => .inl h)) s8 (fun _ h => .inl h))⟩
theorem vclose_v {w : World} {g : Nat} {s : Wr.Rd} (hB : Blk w g 136 [strV s.r, .bool s.b].toArray) (c : UInt8) {z : Int} (hk : z = (c.toNat : Int)) : Calls Tryz.prog 120 [.pointer (some ⟨g, 0, none⟩), .int .u8 z].toArray w (VTo g (.bool (Wr.closeB s c)) (Wr.close s c) w) := by
 subst hk
 refine calls_start Tryz.func120 rfl rfl ?_
 intro az Z
 rw [Tryz.ntmps120] at Z
 refine wp_seq_k fun _ k1 => wp_region_lit ?_
 refine L (r_as Z rfl) Z rfl ?_; clear Z az; intro az Z
 refine k1 _ _ (wp_seq_k fun _ k2 => ?_)
 refine wp_seq_k fun _ k3 => wp_region_lit ?_
 refine L (r_mv Z rfl) Z rfl ?_; clear Z az; intro az Z
 refine L (r_nilP Z rfl) Z rfl ?_; clear Z az; intro az Z
 refine L (r_fa (m' := 0) Tryz.underlying136 rfl Tryz.sizeOf9 rfl Z rfl rfl) Z rfl ?_; clear Z az; intro az Z
 refine L (r_ld Tryz.isAgg9 Z rfl ((Blk.ca hB) 0 _ rfl)) Z rfl ?_; clear Z az; intro az Z
 refine L (r_lenS Tryz.underlying9 Z rfl) Z rfl ?_; clear Z az; intro az Z
 refine L (r_eqI Z rfl rfl) Z rfl ?_; clear Z az; intro az Z
 refine k3 _ _ ?_
 refine br Z rfl (fun hc4 => ?_) (fun hc4 => ?_)
 ·
  have p5 := of_decide_eq_true hc4
  refine wp_seq_k fun _ k6 => wp_region_lit ?_
  refine L (r_mv Z rfl) Z rfl ?_; clear Z az; intro az Z
  refine LC Z rfl rfl Tryz.call119 (vfail_v (s := s) hB) rfl ?_
  rintro e w7 ⟨rfl, B8, o9⟩; refine ⟨_, rfl, ?_⟩
  clear Z az; intro az Z
  refine k6 _ _ (wp_seq_k fun _ k10 => wp_region_lit ?_)
  refine L (r_as Z rfl) Z rfl ?_; clear Z az; intro az Z
  refine k10 _ _ ?_
  refine wp_ret ?_
  show bodyPost _ _ _ .ret _ _
  refine ret_of (vs := [.bool (false)]) Z Tryz.results120 ⟨rfl, trivial⟩ ?_
  obtain ⟨hx1, hx2⟩ := Wr.close_nil (c := c) hc4
  rw [hx1, hx2]
  exact ⟨rfl, B8, (Only.trans (Only.refl (oneF g) w) o9 (fun _ h => .inl h))⟩
 ·
  have p11 := of_decide_eq_false hc4
  refine wp_skip ?_
  refine k2 _ _ (wp_seq_k fun _ k12 => ?_)
  refine wp_seq_k fun _ k13 => wp_region_lit ?_
  refine L (r_mv Z rfl) Z rfl ?_; clear Z az; intro az Z
  refine L (r_nilP Z rfl) Z rfl ?_; clear Z az; intro az Z
  refine L (r_fa (m' := 0) Tryz.underlying136 rfl Tryz.sizeOf9 rfl Z rfl rfl) Z rfl ?_; clear Z az; intro az Z
  refine L (r_ld Tryz.isAgg9 Z rfl ((Blk.ca hB) 0 _ rfl)) Z rfl ?_; clear Z az; intro az Z
  refine L (r_ixD (k := 0) Tryz.underlying9 Z rfl rfl rfl (by omega)) Z rfl ?_; clear Z az; intro az Z
  refine L (r_mv Z rfl) Z rfl ?_; clear Z az; intro az Z
  refine L (r_neI Z rfl rfl) Z rfl ?_; clear Z az; intro az Z
  refine k13 _ _ ?_
  refine br Z rfl (fun hc14 => ?_) (fun hc14 => ?_)
  ·
   have p15 := of_decide_eq_false (nt_t hc14)
   refine wp_seq_k fun _ k16 => wp_region_lit ?_
   refine L (r_mv Z rfl) Z rfl ?_; clear Z az; intro az Z
   refine LC Z rfl rfl Tryz.call119 (vfail_v (s := s) hB) rfl ?_
   rintro e w17 ⟨rfl, B18, o19⟩; refine ⟨_, rfl, ?_⟩
   clear Z az; intro az Z
   refine k16 _ _ (wp_seq_k fun _ k20 => wp_region_lit ?_)
   refine L (r_as Z rfl) Z rfl ?_; clear Z az; intro az Z
   refine k20 _ _ ?_
   refine wp_ret ?_
   show bodyPost _ _ _ .ret _ _
   refine ret_of (vs := [.bool (false)]) Z Tryz.results120 ⟨rfl, trivial⟩ ?_
   obtain ⟨hx1, hx2⟩ := Wr.close_ne hc4 hc14
   rw [hx1, hx2]
   exact ⟨rfl, B18, (Only.trans (Only.refl (oneF g) w) o19 (fun _ h => .inl h))⟩
  ·
   have p21 := of_decide_eq_true (nt_f hc14)
   refine wp_skip ?_
   refine k12 _ _ (wp_seq_k fun _ k22 => wp_region_lit ?_)
   refine L (r_mv Z rfl) Z rfl ?_; clear Z az; intro az Z
   refine L (r_mv Z rfl) Z rfl ?_; clear Z az; intro az Z
   refine L (r_nilP Z rfl) Z rfl ?_; clear Z az; intro az Z
   refine L (r_fa (m' := 0) Tryz.underlying136 rfl Tryz.sizeOf9 rfl Z rfl rfl) Z rfl ?_; clear Z az; intro az Z
   refine L (r_ld Tryz.isAgg9 Z rfl ((Blk.ca hB) 0 _ rfl)) Z rfl ?_; clear Z az; intro az Z
   have le23 : 1 ≤ List.length (s.r) := by omega
   refine L (r_ssl (lo := 1) Tryz.underlying9 Z rfl rfl rfl le23) Z rfl ?_; clear Z az; intro az Z
   refine L (r_nilP Z rfl) Z rfl ?_; clear Z az; intro az Z
   refine L (r_fa (m' := 0) Tryz.underlying136 rfl Tryz.sizeOf9 rfl Z rfl rfl) Z rfl ?_; clear Z az; intro az Z
   refine LSt (cs' := [strV (List.drop 1 s.r), .bool (s.b)]) Tryz.sizeOf9 Z rfl rfl rfl rfl rfl ⟨rfl, trivial⟩ hB rfl rfl fun w24 s25 B26 => ?_
   refine k22 _ _ (wp_seq_k fun _ k27 => wp_region_lit ?_)
   refine L (r_as Z rfl) Z rfl ?_; clear Z az; intro az Z
   refine k27 _ _ ?_
   refine wp_ret ?_
   show bodyPost _ _ _ .ret _ _
   refine ret_of (vs := [.bool (true)]) Z Tryz.results120 ⟨rfl, trivial⟩ ?_
   obtain ⟨hx1, hx2⟩ := Wr.close_eq1 hc4 hc14
   rw [hx1, hx2]
   exact ⟨rfl, B26, (Only.trans (Only.refl (oneF g) w) s25 (fun _ h => .inl h))⟩
theorem vahead_v {w : World} {g : Nat} {s : Wr.Rd} (hB : Blk w g 136 [strV s.r, .bool s.b].toArray) (e : UInt8) {z : Int} (hk : z = (e.toNat : Int)) : Calls Tryz.prog 130 [.pointer (some ⟨g, 0, none⟩), .int .u8 z].toArray w (VTo g (.int .i64 (Wr.number s e Wr.Min).1) (Wr.number s e Wr.Min).2 w) := by
 subst hk
 refine calls_start Tryz.func130 rfl rfl ?_
 intro az Z
 rw [Tryz.ntmps130] at Z
 refine wp_seq_k fun _ k1 => wp_region_lit ?_
 refine L (r_as Z rfl) Z rfl ?_; clear Z az; intro az Z
 refine k1 _ _ (wp_seq_k fun _ k2 => wp_region_lit ?_)
 refine L (r_as Z rfl) Z rfl ?_; clear Z az; intro az Z
 refine k2 _ _ (wp_seq_k fun _ k3 => ?_)
 refine wp_block ?_
 refine wp_loop_m (fun mz az W => ∃ k : Nat, mz = s.r.length - k ∧ Fr 75 [(0, .pointer (some ((⟨g, 0, none⟩ : Addr)))), (1, .int .u8 (((e.toNat : Nat) : Int))), (5, .int .i64 ((k : Int)))] az ∧ (k ≤ s.r.length) ∧ (k ≤ 21) ∧ (Wr.NoE s.r e k) ∧ Only NoF w W) ?_ ?_
 ·
  exact ⟨_, 0, rfl, Z.cut ⟨rfl, rfl, rfl, trivial⟩, (Nat.zero_le _), (Nat.zero_le _), (fun c h => by simp at h), (Only.refl NoF w)⟩
 clear Z az
 rintro mz az w4 ⟨k, hm6, Z, hk1, hk2, hne, o5⟩
 refine wp_seq_k fun _ k7 => ?_
 refine wp_seq_k fun _ k8 => wp_region_lit ?_
 refine L (r_mv Z rfl) Z rfl ?_; clear Z az; intro az Z
 refine L (r_mv Z rfl) Z rfl ?_; clear Z az; intro az Z
 refine L (r_nilP Z rfl) Z rfl ?_; clear Z az; intro az Z
 refine L (r_fa (m' := 0) Tryz.underlying136 rfl Tryz.sizeOf9 rfl Z rfl rfl) Z rfl ?_; clear Z az; intro az Z
 have B9 := (Blk.k hB o5)
 refine L (r_ld Tryz.isAgg9 Z rfl ((Blk.ca B9) 0 _ rfl)) Z rfl ?_; clear Z az; intro az Z
 refine L (r_lenS Tryz.underlying9 Z rfl) Z rfl ?_; clear Z az; intro az Z
 refine L (r_ltI Z rfl rfl) Z rfl ?_; clear Z az; intro az Z
 refine L (r_mv Z rfl) Z rfl ?_; clear Z az; intro az Z
 refine LG Z rfl rfl gd_t (fun hb => r_mv Z rfl) rfl ?_; clear Z az; intro az Z
 refine LG Z rfl rfl gd_t (fun hb => r_ltI Z (evg hb rfl) rfl) rfl ?_; clear Z az; intro az Z
 refine L (r_and Z rfl rfl rfl) Z rfl ?_; clear Z az; intro az Z
 refine L (r_mv Z rfl) Z rfl ?_; clear Z az; intro az Z
 refine LG Z rfl rfl gd_t (fun hb => r_mv Z rfl) rfl ?_; clear Z az; intro az Z
 refine LG Z rfl rfl gd_t (fun hb => r_nilP Z (evg hb rfl)) rfl ?_; clear Z az; intro az Z
 refine LG Z rfl rfl gd_t (fun hb => r_fa (m' := 0) Tryz.underlying136 rfl Tryz.sizeOf9 rfl Z (evg hb rfl) rfl) rfl ?_; clear Z az; intro az Z
 refine LG Z rfl rfl gd_t (fun hb => r_ld Tryz.isAgg9 Z (evg hb rfl) ((Blk.ca B9) 0 _ rfl)) rfl ?_; clear Z az; intro az Z
 refine LG Z rfl rfl gd_t (fun hb => r_mv Z rfl) rfl ?_; clear Z az; intro az Z
 refine LG Z rfl rfl gd_t (fun hb => r_ixD (k := k) Tryz.underlying9 Z (evg hb rfl) (evg hb rfl) rfl (ixb hb)) rfl ?_; clear Z az; intro az Z
 refine LG Z rfl rfl gd_t (fun hb => r_mv Z rfl) rfl ?_; clear Z az; intro az Z
 refine LG Z rfl rfl gd_t (fun hb => r_neI Z (evg hb rfl) (evg hb rfl)) rfl ?_; clear Z az; intro az Z
 refine L (r_and Z rfl rfl rfl) Z rfl ?_; clear Z az; intro az Z
 refine k8 _ _ ?_
 refine br Z rfl (fun hc10 => ?_) (fun hc10 => ?_)
 ·
  have p11 := of_decide_eq_true (and_t (and_t hc10).1).1
  have p12 := of_decide_eq_true (and_t (and_t hc10).1).2
  have p13 := of_decide_eq_false (nt_t (and_t hc10).2)
  refine wp_skip ?_
  refine k7 _ _ ?_
  refine wp_block ?_
  refine wp_region_lit ?_
  refine L (r_mv Z rfl) Z rfl ?_; clear Z az; intro az Z
  have i14 : I64 (((k : Int) + 1)) := by unfold I64; omega
  refine L (r_addI (r := ((k : Int) + 1)) Z rfl rfl rfl i14) Z rfl ?_; clear Z az; intro az Z
  refine L (r_as Z rfl) Z rfl ?_; clear Z az; intro az Z
  exact ⟨_, (by omega), k + 1, rfl, Z.cut ⟨rfl, rfl, rfl, trivial⟩, (by omega), (by omega), (Wr.noE_next hne (by omega) hc10), o5⟩
 ·
  have d15 := hc10
  refine wp_exit ?_
  refine th_exit ?_
  refine th_exit ?_
  refine ib_hit ?_
  refine k3 _ _ (wp_seq_k fun _ k16 => ?_)
  refine wp_seq_k fun _ k17 => wp_region_lit ?_
  refine L (r_mv Z rfl) Z rfl ?_; clear Z az; intro az Z
  refine L (r_mv Z rfl) Z rfl ?_; clear Z az; intro az Z
  refine L (r_nilP Z rfl) Z rfl ?_; clear Z az; intro az Z
  refine L (r_fa (m' := 0) Tryz.underlying136 rfl Tryz.sizeOf9 rfl Z rfl rfl) Z rfl ?_; clear Z az; intro az Z
  refine L (r_ld Tryz.isAgg9 Z rfl ((Blk.ca B9) 0 _ rfl)) Z rfl ?_; clear Z az; intro az Z
  refine L (r_lenS Tryz.underlying9 Z rfl) Z rfl ?_; clear Z az; intro az Z
  refine L (r_geI Z rfl rfl) Z rfl ?_; clear Z az; intro az Z
  refine k17 _ _ ?_
  refine br Z rfl (fun hc18 => ?_) (fun hc18 => ?_)
  ·
   have p19 := of_decide_eq_true hc18
   refine wp_seq_k fun _ k20 => wp_region_lit ?_
   refine L (r_mv Z rfl) Z rfl ?_; clear Z az; intro az Z
   refine LC Z rfl rfl Tryz.call119 (vfail_v (s := s) B9) rfl ?_
   rintro e w21 ⟨rfl, B22, o23⟩; refine ⟨_, rfl, ?_⟩
   clear Z az; intro az Z
   refine L (r_as Z rfl) Z rfl ?_; clear Z az; intro az Z
   refine k20 _ _ ?_
   refine wp_ret ?_
   show bodyPost _ _ _ .ret _ _
   refine ret_of (vs := [.int .i64 (0)]) Z Tryz.results130 ⟨rfl, trivial⟩ ?_
   rw [Wr.ah_end hne hk1 hc18]
   exact ⟨rfl, B22, (Only.trans (Only.trans (Only.refl (oneF g) w) o5 (fun _ h => h.elim)) o23 (fun _ h => .inl h))⟩
  ·
   have p24 := of_decide_eq_false hc18
   refine wp_skip ?_
   refine k16 _ _ (wp_seq_k fun _ k25 => ?_)
   refine wp_seq_k fun _ k26 => wp_region_lit ?_
   refine L (r_mv Z rfl) Z rfl ?_; clear Z az; intro az Z
   refine L (r_nilP Z rfl) Z rfl ?_; clear Z az; intro az Z
   refine L (r_fa (m' := 0) Tryz.underlying136 rfl Tryz.sizeOf9 rfl Z rfl rfl) Z rfl ?_; clear Z az; intro az Z
   refine L (r_ld Tryz.isAgg9 Z rfl ((Blk.ca B9) 0 _ rfl)) Z rfl ?_; clear Z az; intro az Z
   refine L (r_mv Z rfl) Z rfl ?_; clear Z az; intro az Z
   refine L (r_ixD (k := k) Tryz.underlying9 Z rfl rfl rfl (by omega)) Z rfl ?_; clear Z az; intro az Z
   refine L (r_mv Z rfl) Z rfl ?_; clear Z az; intro az Z
   refine L (r_neI Z rfl rfl) Z rfl ?_; clear Z az; intro az Z
   refine k26 _ _ ?_
   refine br Z rfl (fun hc27 => ?_) (fun hc27 => ?_)
   ·
    have p28 := of_decide_eq_false (nt_t hc27)
    refine wp_seq_k fun _ k29 => wp_region_lit ?_
    refine L (r_mv Z rfl) Z rfl ?_; clear Z az; intro az Z
    refine LC Z rfl rfl Tryz.call119 (vfail_v (s := s) B9) rfl ?_
    rintro e w30 ⟨rfl, B31, o32⟩; refine ⟨_, rfl, ?_⟩
    clear Z az; intro az Z
    refine L (r_as Z rfl) Z rfl ?_; clear Z az; intro az Z
    refine k29 _ _ ?_
    refine wp_ret ?_
    show bodyPost _ _ _ .ret _ _
    refine ret_of (vs := [.int .i64 (0)]) Z Tryz.results130 ⟨rfl, trivial⟩ ?_
    rw [Wr.ah_cut hne (by omega) hc10 hc27]
    exact ⟨rfl, B31, (Only.trans (Only.trans (Only.refl (oneF g) w) o5 (fun _ h => h.elim)) o32 (fun _ h => .inl h))⟩
   ·
    have p33 := of_decide_eq_true (nt_f hc27)
    refine wp_skip ?_
    refine k25 _ _ (wp_seq_k fun _ k34 => wp_region_lit ?_)
    refine L (r_mv Z rfl) Z rfl ?_; clear Z az; intro az Z
    refine L (r_nilP Z rfl) Z rfl ?_; clear Z az; intro az Z
    refine L (r_fa (m' := 0) Tryz.underlying136 rfl Tryz.sizeOf9 rfl Z rfl rfl) Z rfl ?_; clear Z az; intro az Z
    refine L (r_ld Tryz.isAgg9 Z rfl ((Blk.ca B9) 0 _ rfl)) Z rfl ?_; clear Z az; intro az Z
    refine L (r_mv Z rfl) Z rfl ?_; clear Z az; intro az Z
    have le35 : k ≤ List.length (s.r) := by omega
    refine L (r_ssh (m := k) Tryz.underlying9 Z rfl rfl rfl le35) Z rfl ?_; clear Z az; intro az Z
    have hln : List.length (List.take k s.r) ≤ 1000000000 := by simp only [List.length_take]; omega
    refine LC Z rfl rfl Tryz.call137 (vback_v _ (List.take k s.r) hln) rfl ?_
    rintro e w42 ⟨n36, b37, rfl, hn38, hy39, hn40, o41⟩; refine ⟨_, rfl, ?_⟩
    clear Z az; intro az Z
    refine L (r_mv Z rfl) Z rfl ?_; clear Z az; intro az Z
    refine L (r_ex Z rfl rfl) Z rfl ?_; clear Z az; intro az Z
    refine L (r_ex Z rfl rfl) Z rfl ?_; clear Z az; intro az Z
    refine L (r_as Z rfl) Z rfl ?_; clear Z az; intro az Z
    refine L (r_as Z rfl) Z rfl ?_; clear Z az; intro az Z
    refine k34 _ _ (wp_seq_k fun _ k43 => ?_)
    refine wp_seq_k fun _ k44 => wp_region_lit ?_
    refine L (r_mv Z rfl) Z rfl ?_; clear Z az; intro az Z
    refine L (r_not Z rfl) Z rfl ?_; clear Z az; intro az Z
    refine k44 _ _ ?_
    refine br Z rfl (fun hc45 => ?_) (fun hc45 => ?_)
    ·
     have q46 : b37 = false := (nt_t hc45)
     refine wp_seq_k fun _ k47 => wp_region_lit ?_
     refine L (r_mv Z rfl) Z rfl ?_; clear Z az; intro az Z
     have B48 := (Blk.k B9 o41)
     refine LC Z rfl rfl Tryz.call119 (vfail_v (s := s) B48) rfl ?_
     rintro e w49 ⟨rfl, B50, o51⟩; refine ⟨_, rfl, ?_⟩
     clear Z az; intro az Z
     refine L (r_as Z rfl) Z rfl ?_; clear Z az; intro az Z
     refine k47 _ _ ?_
     refine wp_ret ?_
     show bodyPost _ _ _ .ret _ _
     refine ret_of (vs := [.int .i64 (0)]) Z Tryz.results130 ⟨rfl, trivial⟩ ?_
     rw [Wr.ah_bad hne (by omega) hc27 (hn40 (nt_t hc45))]
     exact ⟨rfl, B50, (Only.trans (Only.trans (Only.trans (Only.refl (oneF g) w) o5 (fun _ h => h.elim)) o41 (fun _ h => h.elim)) o51 (fun _ h => .inl h))⟩
    ·
     have q52 : b37 = true := (nt_f hc45)
     refine wp_skip ?_
     refine k43 _ _ (wp_seq_k fun _ k53 => wp_region_lit ?_)
     refine L (r_mv Z rfl) Z rfl ?_; clear Z az; intro az Z
     refine L (r_mv Z rfl) Z rfl ?_; clear Z az; intro az Z
     refine L (r_nilP Z rfl) Z rfl ?_; clear Z az; intro az Z
     refine L (r_fa (m' := 0) Tryz.underlying136 rfl Tryz.sizeOf9 rfl Z rfl rfl) Z rfl ?_; clear Z az; intro az Z
     have B54 := (Blk.k B9 o41)
     refine L (r_ld Tryz.isAgg9 Z rfl ((Blk.ca B54) 0 _ rfl)) Z rfl ?_; clear Z az; intro az Z
     refine L (r_mv Z rfl) Z rfl ?_; clear Z az; intro az Z
     have i55 : I64 (((k : Int) + 1)) := by unfold I64; omega
     refine L (r_addI (r := ((k : Int) + 1)) Z rfl rfl rfl i55) Z rfl ?_; clear Z az; intro az Z
     have le56 : (k + 1) ≤ List.length (s.r) := by omega
     refine L (r_ssl (lo := (k + 1)) Tryz.underlying9 Z rfl rfl (by omega) le56) Z rfl ?_; clear Z az; intro az Z
     refine L (r_nilP Z rfl) Z rfl ?_; clear Z az; intro az Z
     refine L (r_fa (m' := 0) Tryz.underlying136 rfl Tryz.sizeOf9 rfl Z rfl rfl) Z rfl ?_; clear Z az; intro az Z
     refine LSt (cs' := [strV (List.drop (k + 1) s.r), .bool (s.b)]) Tryz.sizeOf9 Z rfl rfl rfl rfl rfl ⟨rfl, trivial⟩ B54 rfl rfl fun w57 s58 B59 => ?_
     refine k53 _ _ (wp_seq_k fun _ k60 => wp_region_lit ?_)
     refine L (r_mv Z rfl) Z rfl ?_; clear Z az; intro az Z
     refine L (r_as Z rfl) Z rfl ?_; clear Z az; intro az Z
     refine k60 _ _ ?_
     refine wp_ret ?_
     show bodyPost _ _ _ .ret _ _
     refine ret_of (vs := [.int .i64 (n36)]) Z Tryz.results130 ⟨rfl, trivial⟩ ?_
     rw [Wr.ah_ok hne (by omega) hc27 (hy39 (nt_f hc45))]
     exact ⟨rfl, B59, (Only.trans (Only.trans (Only.trans (Only.refl (oneF g) w) o5 (fun _ h => h.elim)) o41 (fun _ h => h.elim)) s58 (fun _ h => .inl h))⟩
theorem vnumber_v {w : World} {g : Nat} {s : Wr.Rd} (hB : Blk w g 136 [strV s.r, .bool s.b].toArray) (e : UInt8) {z : Int} (hk : z = (e.toNat : Int)) : Calls Tryz.prog 118 [.pointer (some ⟨g, 0, none⟩), .int .u8 z].toArray w (VTo g (.int .i64 (Wr.number s e 0).1) (Wr.number s e 0).2 w) := by
 refine calls_start Tryz.func118 rfl rfl ?_
 intro az Z
 rw [Tryz.ntmps118] at Z
 refine wp_seq_k fun _ k1 => wp_region_lit ?_
 refine L (r_as Z rfl) Z rfl ?_; clear Z az; intro az Z
 refine k1 _ _ (wp_seq_k fun _ k2 => wp_region_lit ?_)
 refine L (r_mv Z rfl) Z rfl ?_; clear Z az; intro az Z
 refine L (r_mv Z rfl) Z rfl ?_; clear Z az; intro az Z
 refine LC Z rfl rfl Tryz.call130 (vahead_v (s := s) hB e hk) rfl ?_
 rintro e w3 ⟨rfl, B4, o5⟩; refine ⟨_, rfl, ?_⟩
 clear Z az; intro az Z
 refine L (r_as Z rfl) Z rfl ?_; clear Z az; intro az Z
 refine k2 _ _ (wp_seq_k fun _ k6 => ?_)
 refine wp_seq_k fun _ k7 => wp_region_lit ?_
 refine L (r_mv Z rfl) Z rfl ?_; clear Z az; intro az Z
 refine L (r_ltI Z rfl rfl) Z rfl ?_; clear Z az; intro az Z
 refine k7 _ _ ?_
 refine br Z rfl (fun hc8 => ?_) (fun hc8 => ?_)
 ·
  have p9 := of_decide_eq_true hc8
  refine wp_seq_k fun _ k10 => wp_region_lit ?_
  refine L (r_mv Z rfl) Z rfl ?_; clear Z az; intro az Z
  refine LC Z rfl rfl Tryz.call119 (vfail_v (s := (Wr.number s e Wr.Min).2) B4) rfl ?_
  rintro e w11 ⟨rfl, B12, o13⟩; refine ⟨_, rfl, ?_⟩
  clear Z az; intro az Z
  refine L (r_as Z rfl) Z rfl ?_; clear Z az; intro az Z
  refine k10 _ _ ?_
  refine wp_ret ?_
  show bodyPost _ _ _ .ret _ _
  refine ret_of (vs := [.int .i64 (0)]) Z Tryz.results118 ⟨rfl, trivial⟩ ?_
  rw [Wr.num_neg (of_decide_eq_true hc8)]
  exact ⟨rfl, B12, (Only.trans (Only.trans (Only.refl (oneF g) w) o5 (fun _ h => .inl h)) o13 (fun _ h => .inl h))⟩
 ·
  have p14 := of_decide_eq_false hc8
  refine wp_skip ?_
  refine k6 _ _ (wp_seq_k fun _ k15 => wp_region_lit ?_)
  refine L (r_mv Z rfl) Z rfl ?_; clear Z az; intro az Z
  refine L (r_as Z rfl) Z rfl ?_; clear Z az; intro az Z
  refine k15 _ _ ?_
  refine wp_ret ?_
  show bodyPost _ _ _ .ret _ _
  refine ret_of (vs := [.int .i64 ((Wr.number s e Wr.Min).1)]) Z Tryz.results118 ⟨rfl, trivial⟩ ?_
  rw [Wr.num_pos (of_decide_eq_false hc8)]
  exact ⟨rfl, B4, (Only.trans (Only.refl (oneF g) w) o5 (fun _ h => .inl h))⟩
theorem vrNum_v {w : World} {g : Nat} {s : Wr.Rd} (hB : Blk w g 136 [strV s.r, .bool s.b].toArray)  : Calls Tryz.prog 95 [.pointer (some ⟨g, 0, none⟩)].toArray w (VTo g (.int .i64 (Wr.num s).1) (Wr.num s).2 w) := by
 refine calls_start Tryz.func95 rfl rfl ?_
 intro az Z
 rw [Tryz.ntmps95] at Z
 refine wp_seq_k fun _ k1 => wp_region_lit ?_
 refine L (r_as Z rfl) Z rfl ?_; clear Z az; intro az Z
 refine k1 _ _ (wp_seq_k fun _ k2 => wp_region_lit ?_)
 refine L (r_mv Z rfl) Z rfl ?_; clear Z az; intro az Z
 refine LC Z rfl rfl Tryz.call118 (vnumber_v (s := s) hB 59 rfl) rfl ?_
 rintro e w3 ⟨rfl, B4, o5⟩; refine ⟨_, rfl, ?_⟩
 clear Z az; intro az Z
 refine L (r_as Z rfl) Z rfl ?_; clear Z az; intro az Z
 refine k2 _ _ ?_
 refine wp_ret ?_
 show bodyPost _ _ _ .ret _ _
 refine ret_of (vs := [.int .i64 ((Wr.number s 59 0).1)]) Z Tryz.results95 ⟨rfl, trivial⟩ ?_
 exact ⟨rfl, B4, (Only.trans (Only.refl (oneF g) w) o5 (fun _ h => .inl h))⟩
theorem vrInt_v {w : World} {g : Nat} {s : Wr.Rd} (hB : Blk w g 136 [strV s.r, .bool s.b].toArray)  : Calls Tryz.prog 121 [.pointer (some ⟨g, 0, none⟩)].toArray w (VTo g (.int .i64 (Wr.int s).1) (Wr.int s).2 w) := by
 refine calls_start Tryz.func121 rfl rfl ?_
 intro az Z
 rw [Tryz.ntmps121] at Z
 refine wp_seq_k fun _ k1 => wp_region_lit ?_
 refine L (r_as Z rfl) Z rfl ?_; clear Z az; intro az Z
 refine k1 _ _ (wp_seq_k fun _ k2 => wp_region_lit ?_)
 refine L (r_mv Z rfl) Z rfl ?_; clear Z az; intro az Z
 refine LC Z rfl rfl Tryz.call130 (vahead_v (s := s) hB 59 rfl) rfl ?_
 rintro e w3 ⟨rfl, B4, o5⟩; refine ⟨_, rfl, ?_⟩
 clear Z az; intro az Z
 refine L (r_as Z rfl) Z rfl ?_; clear Z az; intro az Z
 refine k2 _ _ ?_
 refine wp_ret ?_
 show bodyPost _ _ _ .ret _ _
 refine ret_of (vs := [.int .i64 ((Wr.number s 59 Wr.Min).1)]) Z Tryz.results121 ⟨rfl, trivial⟩ ?_
 exact ⟨rfl, B4, (Only.trans (Only.refl (oneF g) w) o5 (fun _ h => .inl h))⟩
theorem vrText_v {w : World} {g : Nat} {s : Wr.Rd} (hB : Blk w g 136 [strV s.r, .bool s.b].toArray) (hfn : Wr.Fine s) : Calls Tryz.prog 94 [.pointer (some ⟨g, 0, none⟩)].toArray w (VTo g (strV (Wr.text s).1) (Wr.text s).2 w) := by
 refine calls_start Tryz.func94 rfl rfl ?_
 intro az Z
 rw [Tryz.ntmps94] at Z
 refine wp_seq_k fun _ k1 => wp_region_lit ?_
 refine L (r_as Z rfl) Z rfl ?_; clear Z az; intro az Z
 refine k1 _ _ (wp_seq_k fun _ k2 => wp_region_lit ?_)
 refine L (r_mv Z rfl) Z rfl ?_; clear Z az; intro az Z
 refine LC Z rfl rfl Tryz.call118 (vnumber_v (s := s) hB 58 rfl) rfl ?_
 rintro e w3 ⟨rfl, B4, o5⟩; refine ⟨_, rfl, ?_⟩
 clear Z az; intro az Z
 refine L (r_as Z rfl) Z rfl ?_; clear Z az; intro az Z
 refine k2 _ _ (wp_seq_k fun _ k6 => ?_)
 refine wp_seq_k fun _ k7 => wp_region_lit ?_
 refine L (r_mv Z rfl) Z rfl ?_; clear Z az; intro az Z
 refine L (r_nilP Z rfl) Z rfl ?_; clear Z az; intro az Z
 refine L (r_fa (m' := 1) Tryz.underlying136 rfl Tryz.sizeOf4 rfl Z rfl rfl) Z rfl ?_; clear Z az; intro az Z
 refine L (r_ld Tryz.isAgg4 Z rfl ((Blk.ca B4) 1 _ rfl)) Z rfl ?_; clear Z az; intro az Z
 refine L (r_mv Z rfl) Z rfl ?_; clear Z az; intro az Z
 refine LG Z rfl rfl gd_f (fun hb => r_mv Z rfl) rfl ?_; clear Z az; intro az Z
 refine LG Z rfl rfl gd_f (fun hb => r_mv Z rfl) rfl ?_; clear Z az; intro az Z
 refine LG Z rfl rfl gd_f (fun hb => r_nilP Z (evg hb rfl)) rfl ?_; clear Z az; intro az Z
 refine LG Z rfl rfl gd_f (fun hb => r_fa (m' := 0) Tryz.underlying136 rfl Tryz.sizeOf9 rfl Z (evg hb rfl) rfl) rfl ?_; clear Z az; intro az Z
 refine LG Z rfl rfl gd_f (fun hb => r_ld Tryz.isAgg9 Z (evg hb rfl) ((Blk.ca B4) 0 _ rfl)) rfl ?_; clear Z az; intro az Z
 refine LG Z rfl rfl gd_f (fun hb => r_lenS Tryz.underlying9 Z (evg hb rfl)) rfl ?_; clear Z az; intro az Z
 refine LG Z rfl rfl gd_f (fun hb => r_geI Z (evg hb rfl) (evg hb rfl)) rfl ?_; clear Z az; intro az Z
 refine L (r_or Z rfl rfl rfl) Z rfl ?_; clear Z az; intro az Z
 refine k7 _ _ ?_
 refine br Z rfl (fun hc8 => ?_) (fun hc8 => ?_)
 ·
  have d9 := hc8
  refine wp_seq_k fun _ k10 => wp_region_lit ?_
  refine L (r_mv Z rfl) Z rfl ?_; clear Z az; intro az Z
  refine LC Z rfl rfl Tryz.call119 (vfail_v (s := (Wr.number s 58 0).2) B4) rfl ?_
  rintro e w11 ⟨rfl, B12, o13⟩; refine ⟨_, rfl, ?_⟩
  clear Z az; intro az Z
  refine k10 _ _ (wp_seq_k fun _ k14 => wp_region_lit ?_)
  refine L (r_as Z rfl) Z rfl ?_; clear Z az; intro az Z
  refine k14 _ _ ?_
  refine wp_ret ?_
  show bodyPost _ _ _ .ret _ _
  refine ret_of (vs := [strV ([])]) Z Tryz.results94 ⟨rfl, trivial⟩ ?_
  rw [Wr.vtext_f hfn hc8]
  exact ⟨rfl, B12, (Only.trans (Only.trans (Only.refl (oneF g) w) o5 (fun _ h => .inl h)) o13 (fun _ h => .inl h))⟩
 ·
  have q15 : (Wr.number s 58 0).2.b = false := (or_f hc8).1
  have p16 := of_decide_eq_false (or_f hc8).2
  refine wp_skip ?_
  refine k6 _ _ (wp_seq_k fun _ k17 => wp_region_lit ?_)
  refine L (r_mv Z rfl) Z rfl ?_; clear Z az; intro az Z
  refine L (r_nilP Z rfl) Z rfl ?_; clear Z az; intro az Z
  refine L (r_fa (m' := 0) Tryz.underlying136 rfl Tryz.sizeOf9 rfl Z rfl rfl) Z rfl ?_; clear Z az; intro az Z
  refine L (r_ld Tryz.isAgg9 Z rfl ((Blk.ca B4) 0 _ rfl)) Z rfl ?_; clear Z az; intro az Z
  refine L (r_mv Z rfl) Z rfl ?_; clear Z az; intro az Z
  obtain ⟨q, hq⟩ : ∃ q : Nat, (Wr.number s 58 0).1 = (q : Int) := ⟨((Wr.number s 58 0).1).toNat, by have := Wr.number_least s 58 0 (Int.le_refl _); omega⟩
  have hcd := Wr.vtext_cond hc8
  have le18 : q ≤ List.length ((Wr.number s 58 0).2.r) := by omega
  refine L (r_ssh (m := q) Tryz.underlying9 Z rfl rfl hq le18) Z rfl ?_; clear Z az; intro az Z
  refine L (r_as Z rfl) Z rfl ?_; clear Z az; intro az Z
  refine k17 _ _ (wp_seq_k fun _ k19 => wp_region_lit ?_)
  refine L (r_mv Z rfl) Z rfl ?_; clear Z az; intro az Z
  refine L (r_mv Z rfl) Z rfl ?_; clear Z az; intro az Z
  refine L (r_nilP Z rfl) Z rfl ?_; clear Z az; intro az Z
  refine L (r_fa (m' := 0) Tryz.underlying136 rfl Tryz.sizeOf9 rfl Z rfl rfl) Z rfl ?_; clear Z az; intro az Z
  refine L (r_ld Tryz.isAgg9 Z rfl ((Blk.ca B4) 0 _ rfl)) Z rfl ?_; clear Z az; intro az Z
  refine L (r_mv Z rfl) Z rfl ?_; clear Z az; intro az Z
  have le20 : q ≤ List.length ((Wr.number s 58 0).2.r) := by omega
  refine L (r_ssl (lo := q) Tryz.underlying9 Z rfl rfl hq le20) Z rfl ?_; clear Z az; intro az Z
  refine L (r_nilP Z rfl) Z rfl ?_; clear Z az; intro az Z
  refine L (r_fa (m' := 0) Tryz.underlying136 rfl Tryz.sizeOf9 rfl Z rfl rfl) Z rfl ?_; clear Z az; intro az Z
  refine LSt (cs' := [strV (List.drop q ((Wr.number s 58 0).2.r)), .bool ((Wr.number s 58 0).2.b)]) Tryz.sizeOf9 Z rfl rfl rfl rfl rfl ⟨rfl, trivial⟩ B4 rfl rfl fun w21 s22 B23 => ?_
  refine k19 _ _ (wp_seq_k fun _ k24 => ?_)
  refine wp_seq_k fun _ k25 => wp_region_lit ?_
  refine L (r_mv Z rfl) Z rfl ?_; clear Z az; intro az Z
  refine LC Z rfl rfl Tryz.call120 (vclose_v (s := (⟨List.drop q ((Wr.number s 58 0).2.r), (Wr.number s 58 0).2.b⟩ : Wr.Rd)) B23 44 rfl) rfl ?_
  rintro e w26 ⟨rfl, B27, o28⟩; refine ⟨_, rfl, ?_⟩
  clear Z az; intro az Z
  refine L (r_not Z rfl) Z rfl ?_; clear Z az; intro az Z
  refine k25 _ _ ?_
  refine br Z rfl (fun hc29 => ?_) (fun hc29 => ?_)
  ·
   have q30 : Wr.closeB (⟨List.drop q ((Wr.number s 58 0).2.r), (Wr.number s 58 0).2.b⟩ : Wr.Rd) 44 = false := (nt_t hc29)
   refine wp_seq_k fun _ k31 => wp_region_lit ?_
   refine L (r_as Z rfl) Z rfl ?_; clear Z az; intro az Z
   refine k31 _ _ ?_
   refine wp_ret ?_
   show bodyPost _ _ _ .ret _ _
   refine ret_of (vs := [strV ([])]) Z Tryz.results94 ⟨rfl, trivial⟩ ?_
   rw [Wr.vtext_2 hc8 hq (nt_t hc29)]
   exact ⟨rfl, B27, (Only.trans (Only.trans (Only.trans (Only.refl (oneF g) w) o5 (fun _ h => .inl h)) s22 (fun _ h => .inl h)) o28 (fun _ h => .inl h))⟩
  ·
   have q32 : Wr.closeB (⟨List.drop q ((Wr.number s 58 0).2.r), (Wr.number s 58 0).2.b⟩ : Wr.Rd) 44 = true := (nt_f hc29)
   refine wp_skip ?_
   refine k24 _ _ (wp_seq_k fun _ k33 => wp_region_lit ?_)
   refine L (r_mv Z rfl) Z rfl ?_; clear Z az; intro az Z
   refine L (r_as Z rfl) Z rfl ?_; clear Z az; intro az Z
   refine k33 _ _ ?_
   refine wp_ret ?_
   show bodyPost _ _ _ .ret _ _
   refine ret_of (vs := [strV (List.take q ((Wr.number s 58 0).2.r))]) Z Tryz.results94 ⟨rfl, trivial⟩ ?_
   rw [Wr.vtext_3 hc8 hq (nt_f hc29)]
   exact ⟨rfl, B27, (Only.trans (Only.trans (Only.trans (Only.refl (oneF g) w) o5 (fun _ h => .inl h)) s22 (fun _ h => .inl h)) o28 (fun _ h => .inl h))⟩
theorem vrLeft_v {w : World} {g : Nat} {s : Wr.Rd} (hB : Blk w g 136 [strV s.r, .bool s.b].toArray) : Calls Tryz.prog 93 [.pointer (some ⟨g, 0, none⟩)].toArray w (Fix (.int .i64 ((s.r.length : Nat) : Int)) w) := by
 refine calls_start Tryz.func93 rfl rfl ?_
 intro az Z
 rw [Tryz.ntmps93] at Z
 refine wp_seq_k fun _ k1 => wp_region_lit ?_
 refine L (r_as Z rfl) Z rfl ?_; clear Z az; intro az Z
 refine k1 _ _ (wp_seq_k fun _ k2 => wp_region_lit ?_)
 refine L (r_mv Z rfl) Z rfl ?_; clear Z az; intro az Z
 refine L (r_nilP Z rfl) Z rfl ?_; clear Z az; intro az Z
 refine L (r_fa (m' := 0) Tryz.underlying136 rfl Tryz.sizeOf9 rfl Z rfl rfl) Z rfl ?_; clear Z az; intro az Z
 refine L (r_ld Tryz.isAgg9 Z rfl ((Blk.ca hB) 0 _ rfl)) Z rfl ?_; clear Z az; intro az Z
 refine L (r_lenS Tryz.underlying9 Z rfl) Z rfl ?_; clear Z az; intro az Z
 refine L (r_as Z rfl) Z rfl ?_; clear Z az; intro az Z
 refine k2 _ _ ?_
 refine wp_ret ?_
 show bodyPost _ _ _ .ret _ _
 refine ret_of (vs := [.int .i64 (((List.length (s.r) : Nat) : Int))]) Z Tryz.results93 ⟨rfl, trivial⟩ ?_
 exact ⟨rfl, (Only.refl NoF w)⟩
theorem vrDone_v {w : World} {g : Nat} {s : Wr.Rd} (hB : Blk w g 136 [strV s.r, .bool s.b].toArray) : Calls Tryz.prog 98 [.pointer (some ⟨g, 0, none⟩)].toArray w (Fix (.bool (Wr.done s)) w) := by
 refine calls_start Tryz.func98 rfl rfl ?_
 intro az Z
 rw [Tryz.ntmps98] at Z
 refine wp_seq_k fun _ k1 => wp_region_lit ?_
 refine L (r_as Z rfl) Z rfl ?_; clear Z az; intro az Z
 refine k1 _ _ (wp_seq_k fun _ k2 => wp_region_lit ?_)
 refine L (r_mv Z rfl) Z rfl ?_; clear Z az; intro az Z
 refine L (r_nilP Z rfl) Z rfl ?_; clear Z az; intro az Z
 refine L (r_fa (m' := 1) Tryz.underlying136 rfl Tryz.sizeOf4 rfl Z rfl rfl) Z rfl ?_; clear Z az; intro az Z
 refine L (r_ld Tryz.isAgg4 Z rfl ((Blk.ca hB) 1 _ rfl)) Z rfl ?_; clear Z az; intro az Z
 refine L (r_not Z rfl) Z rfl ?_; clear Z az; intro az Z
 refine L (r_mv Z rfl) Z rfl ?_; clear Z az; intro az Z
 refine LG Z rfl rfl gd_t (fun hb => r_mv Z rfl) rfl ?_; clear Z az; intro az Z
 refine LG Z rfl rfl gd_t (fun hb => r_nilP Z (evg hb rfl)) rfl ?_; clear Z az; intro az Z
 refine LG Z rfl rfl gd_t (fun hb => r_fa (m' := 0) Tryz.underlying136 rfl Tryz.sizeOf9 rfl Z (evg hb rfl) rfl) rfl ?_; clear Z az; intro az Z
 refine LG Z rfl rfl gd_t (fun hb => r_ld Tryz.isAgg9 Z (evg hb rfl) ((Blk.ca hB) 0 _ rfl)) rfl ?_; clear Z az; intro az Z
 refine LG Z rfl rfl gd_t (fun hb => r_eqS Z (evg hb rfl) rfl) rfl ?_; clear Z az; intro az Z
 refine L (r_and Z rfl rfl rfl) Z rfl ?_; clear Z az; intro az Z
 refine L (r_as Z rfl) Z rfl ?_; clear Z az; intro az Z
 refine k2 _ _ ?_
 refine wp_ret ?_
 show bodyPost _ _ _ .ret _ _
 refine ret_of (vs := [.bool (((!s.b) && (decide (s.r = []))))]) Z Tryz.results98 ⟨rfl, trivial⟩ ?_
 exact ⟨rfl, (Only.refl NoF w)⟩
theorem vOpen_v (w : World) (t : Str) : Calls Tryz.prog 92 [strV t].toArray w (VOpenTo t w) := by
 refine calls_start Tryz.func92 rfl rfl ?_
 intro az Z
 rw [Tryz.ntmps92] at Z
 refine wp_seq_k fun _ k1 => wp_region_lit ?_
 refine L (r_as Z rfl) Z rfl ?_; clear Z az; intro az Z
 refine k1 _ _ (wp_seq_k fun _ k2 => wp_region_lit ?_)
 refine L (r_mv Z rfl) Z rfl ?_; clear Z az; intro az Z
 refine L (r_bd (v := .agg #[strV (t), .bool (false)]) (build_vRd _) Z rfl) Z rfl ?_; clear Z az; intro az Z
 refine LBox Z rfl rfl rfl ?_
 clear Z az; intro g3 w4 hg7 hl8 o5 B6 az Z
 refine L (r_as Z rfl) Z rfl ?_; clear Z az; intro az Z
 refine k2 _ _ ?_
 refine wp_ret ?_
 show bodyPost _ _ _ .ret _ _
 refine ret_of (vs := [.pointer (some ((⟨g3, 0, none⟩ : Addr)))]) Z Tryz.results92 ⟨rfl, trivial⟩ ?_
 exact ⟨_, rfl, hg7, B6, o5⟩
end
end Go.Proofs.YtdegmpigkgkafaaGreatDoor
