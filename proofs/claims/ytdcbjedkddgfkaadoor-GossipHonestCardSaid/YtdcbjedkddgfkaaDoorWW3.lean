/-
  The wire's lists encoded, walked. Condition: at most 1,000,000 elements, and a bound on the bytes.
-/
import Derived.Test.YtdcbjedkddgfkaaDoorWW3a
namespace Go.Proofs.YtdcbjedkddgfkaaDoor
set_option linter.unusedVariables false
set_option linter.unusedSimpArgs false
set_option linter.unusedSectionVars false
open Go.RowKit
set_option maxRecDepth 20000 in
set_option maxHeartbeats 4000000 in
theorem listI_v_ {w : World} {l : List Int} {A1 : Option Addr} {c1 : Nat} (hG : Gr w) (f1 : IntsV w (.slice A1 l.length c1) l) (hl : l.length ≤ 1000000) (hb : (l.flatMap Wr.intE).length ≤ 1000000000) : Calls Tryd.prog 82 [.slice A1 l.length c1, .func (.func 81) #[] #[]].toArray w (Fix (strV (Wr.listE Wr.intE l)) w) := by
 refine calls_start Tryd.func82 rfl rfl ?_
 intro az Z
 rw [Tryd.ntmps82] at Z
 refine wp_seq_k fun _ k1 => wp_region_lit ?_
 refine L (r_as Z rfl) Z rfl ?_; clear Z az; intro az Z
 refine k1 _ _ (wp_seq_k fun _ k2 => wp_region_lit ?_)
 refine LAl (v := .agg #[.pointer none, .slice none (0) 0]) Tryd.zeroValue124 Z rfl rfl ?_
 clear Z az; intro g3 w4 hg7 hl8 o5 B6 az Z
 refine k2 _ _ (wp_seq_k fun _ k9 => wp_region_lit ?_)
 refine L (r_mv Z rfl) Z rfl ?_; clear Z az; intro az Z
 refine L (r_lenL Tryd.underlying31 Z rfl) Z rfl ?_; clear Z az; intro az Z
 have G10 := Gr.k hG o5
 refine LCV (v := strV (Lib.itoa ((l.length : Nat) : Int))) Z rfl rfl Tryd.call83 (itoa_v G10 ((l.length : Nat) : Int) (by unfold Wr.Ok; omega)) rfl fun w11 o12 => ?_; clear Z az; intro az Z
 refine L (r_addS Z rfl rfl (by simp only [List.length_append, List.length_cons, List.length_nil]; have hq := itoa_len ((l.length : Nat) : Int) (by omega) (by omega); omega)) Z rfl ?_; clear Z az; intro az Z
 have B16 := (Blk.k B6 o12)
 have h13 := Bld.new hg7 B16
 have hb14 : w.heap.size ≤ w.heap.size := (Nat.le_refl _)
 have O17 : Only NoF w w11 := (Only.trans' o5 o12)
 have hb15 : w.heap.size ≤ w11.heap.size := (size_only O17)
 have hl21 : List.length (([] : Str)) + List.length (Lib.itoa ((l.length : Nat) : Int) ++ [91]) ≤ 140737488355328 := by have hq := itoa_len ((l.length : Nat) : Int) (by omega) (by omega); simp only [List.length_append, List.length_cons, List.length_nil]; omega
 refine LC Z rfl rfl Tryd.call89 (ws_v h13 (Lib.itoa ((l.length : Nat) : Int) ++ [91]) hl21 hb15) rfl ?_
 rintro e w18 ⟨rfl, h19, o20⟩; refine ⟨_, rfl, ?_⟩
 rw [List.nil_append] at h19
 clear Z az; intro az Z
 refine k9 _ _ (wp_seq_k fun _ k22 => ?_)
 refine wp_seq_k fun _ k23 => wp_region_lit ?_
 refine L (r_mv Z rfl) Z rfl ?_; clear Z az; intro az Z
 refine L (r_lenL Tryd.underlying31 Z rfl) Z rfl ?_; clear Z az; intro az Z
 refine L (r_mv Z rfl) Z rfl ?_; clear Z az; intro az Z
 refine k23 _ _ ?_
 refine wp_block ?_
 refine wp_loop_m (fun mz az W => ∃ k : Nat, mz = l.length - k ∧ Fr 26 [(1, .func (.func 81) #[] #[]), (5, .pointer (some ((⟨g3, 0, none⟩ : Addr)))), (13, .slice A1 (l.length) c1), (14, .int .i64 (((l.length : Nat) : Int))), (15, .int .i64 ((k : Int)))] az ∧ (k ≤ l.length) ∧ Only NoF w W ∧ Bld (w.heap.size) g3 ((Lib.itoa ((List.length (l) : Nat) : Int) ++ [91]) ++ List.flatMap Wr.intE (List.take k l)) W ∧ w.heap.size ≤ W.heap.size) ?_ ?_
 ·
  have O24 := (Only.trans (Only.refl (fun _ => True) w11) o20 (fun _ _ => .inl trivial))
  have O25 : Only NoF w w18 := (o_sg O17 o20 (Nat.le_refl _) (fun _ h => Nat.le_trans hb14 h))
  exact ⟨_, 0, rfl, Z.cut ⟨rfl, rfl, rfl, rfl, rfl, trivial⟩, Nat.zero_le _, O25, (by simpa using h19), (Nat.le_trans hb15 (size_only O24))⟩
 clear Z az
 rintro mz az w26 ⟨k, hm28, Z, hk, o27, hbd, hbw⟩
 have hft := flat_take_le Wr.intE l k
 refine wp_seq_k fun _ k29 => wp_region_lit ?_
 refine L (r_ltI Z rfl rfl) Z rfl ?_; clear Z az; intro az Z
 refine k29 _ _ (wp_seq_k fun _ k30 => ?_)
 refine br Z rfl (fun hc31 => ?_) (fun hc31 => ?_)
 ·
  have p32 := of_decide_eq_true hc31
  refine wp_skip ?_
  refine k30 _ _ (wp_seq_k fun _ k33 => ?_)
  refine wp_block ?_
  refine wp_seq_k fun _ k34 => wp_region_lit ?_
  have hk35 : k < (l).length := by omega
  have h41 := (SliceOf.kp f1 o27 (fun _ _ h => h) (fun _ _ _ _ h => h))
  obtain ⟨m36, hm37, ok38, hA39⟩ := Row.el KInt h41 hk35
  have E40 : ∀ W, Only NoF w26 W → CA W (eA A1 1 (k)) [.int .i64 (m36)] := Row.ce KInt h41 hm37 rfl
  refine L (r_ia (k := k) (size := 1) Tryd.underlying31 Tryd.sizeOf3 Z rfl rfl rfl hk35 hA39) Z rfl ?_; clear Z az; intro az Z
  refine L (r_ld Tryd.isAgg3 Z rfl (CA.first (E40 _ (Only.refl NoF w26)))) Z rfl ?_; clear Z az; intro az Z
  refine L (r_as Z rfl) Z rfl ?_; clear Z az; intro az Z
  refine k34 _ _ ?_
  refine wp_region_lit ?_
  refine L (r_mv Z rfl) Z rfl ?_; clear Z az; intro az Z
  refine L (r_mv Z rfl) Z rfl ?_; clear Z az; intro az Z
  have hst := flat_step Wr.intE hm37
  have hst2 := flat_take_le Wr.intE l (k + 1); rw [hst, List.length_append] at hst2
  have G42 := Gr.k hG o27
  refine LCV (v := strV (Wr.intE m36)) Z rfl rfl Tryd.call81 (Int_v G42 m36 (wr_ok ok38)) rfl fun w43 o44 => ?_; clear Z az; intro az Z
  have h45 := Bld.k hbd o44
  have hl49 : List.length ((Lib.itoa ((List.length (l) : Nat) : Int) ++ [91]) ++ List.flatMap Wr.intE (List.take k l)) + List.length (Wr.intE m36) ≤ 140737488355328 := by have hq := itoa_len ((l.length : Nat) : Int) (by omega) (by omega); simp only [List.length_append, List.length_cons, List.length_nil]; omega
  refine LC Z rfl rfl Tryd.call89 (ws_v h45 (Wr.intE m36) hl49 (Nat.le_trans hbw (size_only o44))) rfl ?_
  rintro e w46 ⟨rfl, h47, o48⟩; refine ⟨_, rfl, ?_⟩
  clear Z az; intro az Z
  refine k33 _ _ ?_
  refine wp_region_lit ?_
  have i50 : I64 (((k : Int) + 1)) := by unfold I64; have hq := itoa_len ((l.length : Nat) : Int) (by omega) (by omega); omega
  refine L (r_addI (r := ((k : Int) + 1)) Z rfl rfl rfl i50) Z rfl ?_; clear Z az; intro az Z
  refine L (r_mv Z rfl) Z rfl ?_; clear Z az; intro az Z
  have O51 := (Only.trans (Only.trans (Only.refl (fun _ => True) w26) o44 (fun _ _ => .inl trivial)) o48 (fun _ _ => .inl trivial))
  have O52 : Only NoF w w46 := (o_sg (Only.trans' o27 o44) o48 (Nat.le_refl _) (fun _ h => Nat.le_trans hb14 h))
  exact ⟨_, (by omega), k + 1, rfl, Z.cut ⟨rfl, rfl, rfl, rfl, rfl, trivial⟩, (by omega), O52, (by rw [hst, ← List.append_assoc]; exact h47), (Nat.le_trans hbw (size_only O51))⟩
 ·
  have p53 := of_decide_eq_false hc31
  refine wp_exit ?_
  refine th_exit ?_
  refine th_exit ?_
  refine ib_hit ?_
  refine k22 _ _ (wp_seq_k fun _ k54 => wp_region_lit ?_)
  refine LC Z rfl rfl Tryd.call90 (bs_v hbd hbw) rfl ?_
  rintro e w55 ⟨rfl, o56⟩; refine ⟨_, rfl, ?_⟩
  clear Z az; intro az Z
  refine L (r_addS Z rfl rfl (by simp only [List.length_append, List.length_cons, List.length_nil]; have hq := itoa_len ((l.length : Nat) : Int) (by omega) (by omega); omega)) Z rfl ?_; clear Z az; intro az Z
  refine L (r_as Z rfl) Z rfl ?_; clear Z az; intro az Z
  refine k54 _ _ ?_
  refine wp_ret ?_
  show bodyPost _ _ _ .ret _ _
  refine ret_of (vs := [strV ((Lib.itoa ((List.length (l) : Nat) : Int) ++ [91]) ++ List.flatMap Wr.intE (List.take k l) ++ [93])]) Z Tryd.results82 ⟨rfl, trivial⟩ ?_
  rw [List.take_of_length_le (show l.length ≤ k by omega)]
  have O57 : Only NoF w w55 := (o_sg o27 o56 (Nat.le_refl _) (fun _ h => Nat.le_trans hb14 h))
  exact ⟨rfl, O57⟩
set_option maxRecDepth 20000 in
set_option maxHeartbeats 4000000 in
theorem Nums_v_ {w : World} {l : List Int} {A1 : Option Addr} {c1 : Nat} (hG : Gr w) (f1 : IntsV w (.slice A1 l.length c1) l) (hl : l.length ≤ 1000000) (hb : (l.flatMap Wr.intE).length ≤ 1000000000) : Calls Tryd.prog 68 [.slice A1 l.length c1].toArray w (Fix (strV (Wr.numsE l)) w) := by
 refine calls_start Tryd.func68 rfl rfl ?_
 intro az Z
 rw [Tryd.ntmps68] at Z
 refine wp_seq_k fun _ k1 => wp_region_lit ?_
 refine L (r_as Z rfl) Z rfl ?_; clear Z az; intro az Z
 refine k1 _ _ (wp_seq_k fun _ k2 => wp_region_lit ?_)
 refine L (r_mv Z rfl) Z rfl ?_; clear Z az; intro az Z
 have G3 := Gr.k hG (Only.refl NoF w)
 refine LCV (v := strV (Wr.numsE l)) Z rfl rfl Tryd.call82 (listI_v_ G3 f1 hl hb) rfl fun w4 o5 => ?_; clear Z az; intro az Z
 refine L (r_as Z rfl) Z rfl ?_; clear Z az; intro az Z
 refine k2 _ _ ?_
 refine wp_ret ?_
 show bodyPost _ _ _ .ret _ _
 refine ret_of (vs := [strV (Wr.numsE l)]) Z Tryd.results68 ⟨rfl, trivial⟩ ?_
 exact ⟨rfl, o5⟩
theorem Nums_v {w : World} {v : Value} {l : List Int} (hG : Gr w) (h : IntsV w v l) (hl : l.length ≤ 1000000) (hb : (l.flatMap Wr.intE).length ≤ 1000000000) : Calls Tryd.prog 68 #[v] w (Fix (strV (Wr.numsE l)) w) := by
 obtain ⟨A1, c1, rfl, _⟩ := SliceOf.shape h
 exact Nums_v_ hG h hl hb
end Go.Proofs.YtdcbjedkddgfkaaDoor
