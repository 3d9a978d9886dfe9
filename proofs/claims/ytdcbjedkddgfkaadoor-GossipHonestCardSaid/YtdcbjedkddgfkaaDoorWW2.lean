/-
  The wire: the reader's calls but for lists, Open, the encodings but for lists, walked. Condition: at most 1,000,000 bytes.
-/
import Derived.Test.YtdcbjedkddgfkaaDoorWir2
namespace Go.Proofs.YtdcbjedkddgfkaaDoor
set_option maxHeartbeats 4000000
set_option maxRecDepth 20000
set_option linter.unusedVariables false
set_option linter.unusedSimpArgs false
set_option linter.unusedSectionVars false
open Go.RowKit
namespace Wr
theorem text_f1 {s : Rd} (h : (((number s 58 0).2.r.length : Nat) : Int) < (number s 58 0).1) : text s = ([], failed) := by
 unfold text; rw [if_pos h]
theorem text_f2 {s : Rd} {q : Nat} (h : ¬ (((number s 58 0).2.r.length : Nat) : Int) < (number s 58 0).1) (hq : (number s 58 0).1 = (q : Int)) (hb : (close ⟨(number s 58 0).2.r.drop q, (number s 58 0).2.b⟩ 44).b = true) :
 text s = ([], close ⟨(number s 58 0).2.r.drop q, (number s 58 0).2.b⟩ 44) := by
 have e : (number s 58 0).1.toNat = q := by omega
 unfold text; rw [if_neg h, e, if_pos hb]
theorem text_s {s : Rd} {q : Nat} (h : ¬ (((number s 58 0).2.r.length : Nat) : Int) < (number s 58 0).1) (hq : (number s 58 0).1 = (q : Int)) (hb : (close ⟨(number s 58 0).2.r.drop q, (number s 58 0).2.b⟩ 44).b = false) :
 text s = ((number s 58 0).2.r.take q, close ⟨(number s 58 0).2.r.drop q, (number s 58 0).2.b⟩ 44) := by
 have e : (number s 58 0).1.toNat = q := by omega
 unfold text; rw [if_neg h, e, if_neg (by rw [hb]; decide)]
end Wr
theorem Int_v {w : World} (hG : Gr w) (n : Int) (hn : Wr.Ok n) : Calls Tryd.prog 81 [.int .i64 n].toArray w (Fix (strV (Wr.intE n)) w) := by
 refine calls_start Tryd.func81 rfl rfl ?_
 intro az Z
 rw [Tryd.ntmps81] at Z
 refine wp_seq_k fun _ k1 => wp_region_lit ?_
 refine L (r_as Z rfl) Z rfl ?_; clear Z az; intro az Z
 refine k1 _ _ (wp_seq_k fun _ k2 => wp_region_lit ?_)
 refine L (r_mv Z rfl) Z rfl ?_; clear Z az; intro az Z
 have G3 := Gr.k hG (Only.refl NoF w)
 refine LCV (v := strV (Lib.itoa n)) Z rfl rfl Tryd.call83 (itoa_v G3 n hn) rfl fun w4 o5 => ?_; clear Z az; intro az Z
 refine L (r_addS Z rfl rfl (by simp only [List.length_append, List.length_cons, List.length_nil]; have hq := itoa_len n hn.1 hn.2; omega)) Z rfl ?_; clear Z az; intro az Z
 refine L (r_as Z rfl) Z rfl ?_; clear Z az; intro az Z
 refine k2 _ _ ?_
 refine wp_ret ?_
 show bodyPost _ _ _ .ret _ _
 refine ret_of (vs := [strV (Lib.itoa n ++ [59])]) Z Tryd.results81 ⟨rfl, trivial⟩ ?_
 exact ⟨rfl, o5⟩
theorem Num_v {w : World} (hG : Gr w) (n : Int) (hn : Wr.Ok n) : Calls Tryd.prog 67 [.int .i64 n].toArray w (Fix (strV (Wr.numE n)) w) := by
 refine calls_start Tryd.func67 rfl rfl ?_
 intro az Z
 rw [Tryd.ntmps67] at Z
 refine wp_seq_k fun _ k1 => wp_region_lit ?_
 refine L (r_as Z rfl) Z rfl ?_; clear Z az; intro az Z
 refine k1 _ _ (wp_seq_k fun _ k2 => ?_)
 refine wp_seq_k fun _ k3 => wp_region_lit ?_
 refine L (r_mv Z rfl) Z rfl ?_; clear Z az; intro az Z
 refine L (r_ltI Z rfl rfl) Z rfl ?_; clear Z az; intro az Z
 refine k3 _ _ ?_
 refine br Z rfl (fun hc4 => ?_) (fun hc4 => ?_)
 ·
  have p5 := of_decide_eq_true hc4
  refine wp_seq_k fun _ k6 => wp_region_lit ?_
  refine L (r_as Z rfl) Z rfl ?_; clear Z az; intro az Z
  refine k6 _ _ ?_
  refine wp_ret ?_
  show bodyPost _ _ _ .ret _ _
  refine ret_of (vs := [strV ([])]) Z Tryd.results67 ⟨rfl, trivial⟩ ?_
  unfold Wr.numE; rw [if_pos (of_decide_eq_true hc4)]; exact ⟨rfl, (Only.refl NoF w)⟩
 ·
  have p7 := of_decide_eq_false hc4
  refine wp_skip ?_
  refine k2 _ _ (wp_seq_k fun _ k8 => wp_region_lit ?_)
  refine L (r_mv Z rfl) Z rfl ?_; clear Z az; intro az Z
  have G9 := Gr.k hG (Only.refl NoF w)
  refine LCV (v := strV (Wr.intE n)) Z rfl rfl Tryd.call81 (Int_v G9 n hn) rfl fun w10 o11 => ?_; clear Z az; intro az Z
  refine L (r_as Z rfl) Z rfl ?_; clear Z az; intro az Z
  refine k8 _ _ ?_
  refine wp_ret ?_
  show bodyPost _ _ _ .ret _ _
  refine ret_of (vs := [strV (Wr.intE n)]) Z Tryd.results67 ⟨rfl, trivial⟩ ?_
  unfold Wr.numE; rw [if_neg (of_decide_eq_false hc4)]; exact ⟨rfl, o11⟩
theorem Text_v {w : World} (hG : Gr w) (t : Str) (ht : t.length ≤ 1000000000) : Calls Tryd.prog 69 [strV t].toArray w (Fix (strV (Wr.textE t)) w) := by
 refine calls_start Tryd.func69 rfl rfl ?_
 intro az Z
 rw [Tryd.ntmps69] at Z
 refine wp_seq_k fun _ k1 => wp_region_lit ?_
 refine L (r_as Z rfl) Z rfl ?_; clear Z az; intro az Z
 refine k1 _ _ (wp_seq_k fun _ k2 => wp_region_lit ?_)
 refine L (r_mv Z rfl) Z rfl ?_; clear Z az; intro az Z
 refine L (r_lenS Tryd.underlying9 Z rfl) Z rfl ?_; clear Z az; intro az Z
 have G3 := Gr.k hG (Only.refl NoF w)
 refine LCV (v := strV (Lib.itoa ((List.length (t) : Nat) : Int))) Z rfl rfl Tryd.call83 (itoa_v G3 ((List.length (t) : Nat) : Int) (by unfold Wr.Ok; omega)) rfl fun w4 o5 => ?_; clear Z az; intro az Z
 refine L (r_addS Z rfl rfl (by simp only [List.length_append, List.length_cons, List.length_nil]; have hq := itoa_len ((t.length : Nat) : Int) (by omega) (by omega); omega)) Z rfl ?_; clear Z az; intro az Z
 refine L (r_mv Z rfl) Z rfl ?_; clear Z az; intro az Z
 refine L (r_addS Z rfl rfl (by simp only [List.length_append, List.length_cons, List.length_nil]; have hq := itoa_len ((t.length : Nat) : Int) (by omega) (by omega); omega)) Z rfl ?_; clear Z az; intro az Z
 refine L (r_addS Z rfl rfl (by simp only [List.length_append, List.length_cons, List.length_nil]; have hq := itoa_len ((t.length : Nat) : Int) (by omega) (by omega); omega)) Z rfl ?_; clear Z az; intro az Z
 refine L (r_as Z rfl) Z rfl ?_; clear Z az; intro az Z
 refine k2 _ _ ?_
 refine wp_ret ?_
 show bodyPost _ _ _ .ret _ _
 refine ret_of (vs := [strV (Lib.itoa ((List.length (t) : Nat) : Int) ++ [58] ++ t ++ [44])]) Z Tryd.results69 ⟨rfl, trivial⟩ ?_
 exact ⟨rfl, o5⟩
end Go.Proofs.YtdcbjedkddgfkaaDoor
