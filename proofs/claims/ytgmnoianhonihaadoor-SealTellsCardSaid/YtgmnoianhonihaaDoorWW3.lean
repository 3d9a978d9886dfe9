/-
  The wire's lists encoded, walked. Condition: at most 1,000,000 elements, and a bound on the bytes.
-/
import Derived.Test.YtgmnoianhonihaaDoorWW3a
namespace Go.Proofs.YtgmnoianhonihaaDoor
set_option linter.unusedVariables false
set_option linter.unusedSimpArgs false
set_option linter.unusedSectionVars false
open Go.RowKit

set_option maxRecDepth 20000 in
set_option maxHeartbeats 4000000 in
theorem listI_v_ {w : World} {l : List Int} {A1 : Option Addr} {c1 : Nat} (hG : Gr w) (f1 : IntsV w (.slice A1 l.length c1) l) (hl : l.length ≤ 1000000) (hb : (l.flatMap Wr.intE).length ≤ 1000000000) : Calls Tryd.prog 70 [.slice A1 l.length c1, .func (.func 19) #[] #[]].toArray w (Fix (strV (Wr.listE Wr.intE l)) w) := by
  refine calls_start Tryd.func70 rfl rfl ?_
  intro az Hz
  rw [Tryd.ntmps70] at Hz
  refine wp_seq_k fun K1 hK1 => ?_
  -- wire.go:27
  refine wp_region_lit ?_
  refine L (r_as Hz rfl) Hz rfl ?_
  clear Hz az; intro az Hz
  refine hK1 _ _ ?_
  refine wp_seq_k fun K2 hK2 => ?_
  -- wire.go:28
  refine wp_region_lit ?_
  refine LAl (v := .agg #[.pointer none, .slice none (0) 0]) Tryd.zeroValue97 Hz rfl rfl ?_
  clear Hz az; intro g3 w4 hg7 hl8 o5 B6 az Hz
  refine hK2 _ _ ?_
  refine wp_seq_k fun K9 hK9 => ?_
  -- wire.go:29
  refine wp_region_lit ?_
  refine L (r_mv Hz rfl) Hz rfl ?_
  clear Hz az; intro az Hz
  refine L (r_lenL Tryd.underlying22 Hz rfl) Hz rfl ?_
  clear Hz az; intro az Hz
  have G10 := Gr.k hG o5
  refine LCV (v := strV (Lib.itoa ((l.length : Nat) : Int))) Hz rfl rfl Tryd.call68 (itoa_v G10 ((l.length : Nat) : Int) (by unfold Wr.Ok; omega)) rfl fun w11 o12 => ?_
  clear Hz az; intro az Hz
  refine L (r_addS Hz rfl rfl (by simp only [List.length_append, List.length_cons, List.length_nil]; have hq := itoa_len ((l.length : Nat) : Int) (by omega) (by omega); omega)) Hz rfl ?_
  clear Hz az; intro az Hz
  have B16 := (Blk.k B6 o12)
  have h13 := Bld.new hg7 B16
  have hb14 : w.heap.size ≤ w.heap.size := (Nat.le_refl _)
  have O17 : Only NoF w w11 := (Only.trans' o5 o12)
  have hb15 : w.heap.size ≤ w11.heap.size := (size_only O17)
  have hl21 : List.length (([] : Str)) + List.length (Lib.itoa ((l.length : Nat) : Int) ++ [91]) ≤ 140737488355328 := by have hq := itoa_len ((l.length : Nat) : Int) (by omega) (by omega); simp only [List.length_append, List.length_cons, List.length_nil]; omega
  refine LC Hz rfl rfl Tryd.call91 (ws_v h13 (Lib.itoa ((l.length : Nat) : Int) ++ [91]) hl21 hb15) rfl ?_
  rintro e w18 ⟨rfl, h19, o20⟩; refine ⟨_, rfl, ?_⟩
  rw [List.nil_append] at h19
  clear Hz az; intro az Hz
  refine hK9 _ _ ?_
  refine wp_seq_k fun K22 hK22 => ?_
  refine wp_seq_k fun K23 hK23 => ?_
  -- wire.go:30
  refine wp_region_lit ?_
  refine L (r_mv Hz rfl) Hz rfl ?_
  clear Hz az; intro az Hz
  refine L (r_lenL Tryd.underlying22 Hz rfl) Hz rfl ?_
  clear Hz az; intro az Hz
  refine L (r_mv Hz rfl) Hz rfl ?_
  clear Hz az; intro az Hz
  refine hK23 _ _ ?_
  refine wp_block ?_
  refine wp_loop_m (fun mz az W => ∃ k : Nat, mz = l.length - k ∧ Fr 26 [(1, .func (.func 19) #[] #[]), (5, .pointer (some ((⟨g3, 0, none⟩ : Addr)))), (13, .slice A1 (l.length) c1), (14, .int .i64 (((l.length : Nat) : Int))), (15, .int .i64 ((k : Int)))] az ∧ (k ≤ l.length) ∧ Only NoF w W ∧ Bld (w.heap.size) g3 ((Lib.itoa ((List.length (l) : Nat) : Int) ++ [91]) ++ List.flatMap Wr.intE (List.take k l)) W ∧ w.heap.size ≤ W.heap.size) ?_ ?_
  · -- start
    have O24 := (Only.trans (Only.refl (fun _ => True) w11) o20 (fun _ _ => .inl trivial))
    have O25 : Only NoF w w18 := (o_sg O17 o20 (Nat.le_refl _) (fun _ h => Nat.le_trans hb14 h))
    exact ⟨_, 0, rfl, Hz.cut ⟨rfl, rfl, rfl, rfl, rfl, trivial⟩, Nat.zero_le _, O25, (by simpa using h19), (Nat.le_trans hb15 (size_only O24))⟩
  clear Hz az
  rintro mz az w26 ⟨k, hm28, Hz, hk, o27, hbd, hbw⟩
  have hft := flat_take_le Wr.intE l k
  refine wp_seq_k fun K29 hK29 => ?_
  -- wire.go:30
  refine wp_region_lit ?_
  refine L (r_ltI Hz rfl rfl) Hz rfl ?_
  clear Hz az; intro az Hz
  refine hK29 _ _ ?_
  refine wp_seq_k fun K30 hK30 => ?_
  refine br Hz rfl (fun hc31 => ?_) (fun hc31 => ?_)
  · -- if0
    have p32 := of_decide_eq_true hc31
    refine wp_skip ?_
    refine hK30 _ _ ?_
    refine wp_seq_k fun K33 hK33 => ?_
    refine wp_block ?_
    refine wp_seq_k fun K34 hK34 => ?_
    -- wire.go:30
    refine wp_region_lit ?_
    have hk35 : k < (l).length := by omega
    have h41 := (SliceOf.kp f1 o27 (fun _ _ h => h) (fun _ _ _ _ h => h))
    obtain ⟨m36, hm37, ok38, hA39⟩ := Row.el KInt h41 hk35
    have E40 : ∀ W, Only NoF w26 W → CA W (eA A1 1 (k)) [.int .i64 (m36)] := Row.ce KInt h41 hm37 rfl
    refine L (r_ia (k := k) (size := 1) Tryd.underlying22 Tryd.sizeOf3 Hz rfl rfl rfl hk35 hA39) Hz rfl ?_
    clear Hz az; intro az Hz
    refine L (r_ld Tryd.isAgg3 Hz rfl (CA.first (E40 _ (Only.refl NoF w26)))) Hz rfl ?_
    clear Hz az; intro az Hz
    refine L (r_as Hz rfl) Hz rfl ?_
    clear Hz az; intro az Hz
    refine hK34 _ _ ?_
    -- wire.go:31
    refine wp_region_lit ?_
    refine L (r_mv Hz rfl) Hz rfl ?_
    clear Hz az; intro az Hz
    refine L (r_mv Hz rfl) Hz rfl ?_
    clear Hz az; intro az Hz
    have hst := flat_step Wr.intE hm37
    have hst2 := flat_take_le Wr.intE l (k + 1); rw [hst, List.length_append] at hst2
    have G42 := Gr.k hG o27
    refine LCV (v := strV (Wr.intE m36)) Hz rfl rfl Tryd.call19 (Int_v G42 m36 (wr_ok ok38)) rfl fun w43 o44 => ?_
    clear Hz az; intro az Hz
    have h45 := Bld.k hbd o44
    have hl49 : List.length ((Lib.itoa ((List.length (l) : Nat) : Int) ++ [91]) ++ List.flatMap Wr.intE (List.take k l)) + List.length (Wr.intE m36) ≤ 140737488355328 := by have hq := itoa_len ((l.length : Nat) : Int) (by omega) (by omega); simp only [List.length_append, List.length_cons, List.length_nil]; omega
    refine LC Hz rfl rfl Tryd.call91 (ws_v h45 (Wr.intE m36) hl49 (Nat.le_trans hbw (size_only o44))) rfl ?_
    rintro e w46 ⟨rfl, h47, o48⟩; refine ⟨_, rfl, ?_⟩
    clear Hz az; intro az Hz
    refine hK33 _ _ ?_
    -- wire.go:30
    refine wp_region_lit ?_
    have i50 : I64 (((k : Int) + 1)) := by unfold I64; have hq := itoa_len ((l.length : Nat) : Int) (by omega) (by omega); omega
    refine L (r_addI (r := ((k : Int) + 1)) Hz rfl rfl rfl i50) Hz rfl ?_
    clear Hz az; intro az Hz
    refine L (r_mv Hz rfl) Hz rfl ?_
    clear Hz az; intro az Hz
    have O51 := (Only.trans (Only.trans (Only.refl (fun _ => True) w26) o44 (fun _ _ => .inl trivial)) o48 (fun _ _ => .inl trivial))
    have O52 : Only NoF w w46 := (o_sg (Only.trans' o27 o44) o48 (Nat.le_refl _) (fun _ h => Nat.le_trans hb14 h))
    exact ⟨_, (by omega), k + 1, rfl, Hz.cut ⟨rfl, rfl, rfl, rfl, rfl, trivial⟩, (by omega), O52, (by rw [hst, ← List.append_assoc]; exact h47), (Nat.le_trans hbw (size_only O51))⟩
  · -- else0
    have p53 := of_decide_eq_false hc31
    refine wp_exit ?_
    refine th_exit ?_
    refine th_exit ?_
    refine ib_hit ?_
    refine hK22 _ _ ?_
    refine wp_seq_k fun K54 hK54 => ?_
    -- wire.go:33
    refine wp_region_lit ?_
    refine LC Hz rfl rfl Tryd.call92 (bs_v hbd hbw) rfl ?_
    rintro e w55 ⟨rfl, o56⟩; refine ⟨_, rfl, ?_⟩
    clear Hz az; intro az Hz
    refine L (r_addS Hz rfl rfl (by simp only [List.length_append, List.length_cons, List.length_nil]; have hq := itoa_len ((l.length : Nat) : Int) (by omega) (by omega); omega)) Hz rfl ?_
    clear Hz az; intro az Hz
    refine L (r_as Hz rfl) Hz rfl ?_
    clear Hz az; intro az Hz
    refine hK54 _ _ ?_
    refine wp_ret ?_
    show bodyPost _ _ _ .ret _ _
    refine ret_of (vs := [strV ((Lib.itoa ((List.length (l) : Nat) : Int) ++ [91]) ++ List.flatMap Wr.intE (List.take k l) ++ [93])]) Hz Tryd.results70 ⟨rfl, trivial⟩ ?_
    rw [List.take_of_length_le (show l.length ≤ k by omega)]
    have O57 : Only NoF w w55 := (o_sg o27 o56 (Nat.le_refl _) (fun _ h => Nat.le_trans hb14 h))
    exact ⟨rfl, O57⟩

set_option maxRecDepth 20000 in
set_option maxHeartbeats 4000000 in
theorem Nums_v_ {w : World} {l : List Int} {A1 : Option Addr} {c1 : Nat} (hG : Gr w) (f1 : IntsV w (.slice A1 l.length c1) l) (hl : l.length ≤ 1000000) (hb : (l.flatMap Wr.intE).length ≤ 1000000000) : Calls Tryd.prog 23 [.slice A1 l.length c1].toArray w (Fix (strV (Wr.numsE l)) w) := by
  refine calls_start Tryd.func23 rfl rfl ?_
  intro az Hz
  rw [Tryd.ntmps23] at Hz
  refine wp_seq_k fun K1 hK1 => ?_
  -- wire.go:37
  refine wp_region_lit ?_
  refine L (r_as Hz rfl) Hz rfl ?_
  clear Hz az; intro az Hz
  refine hK1 _ _ ?_
  refine wp_seq_k fun K2 hK2 => ?_
  -- wire.go:37
  refine wp_region_lit ?_
  refine L (r_mv Hz rfl) Hz rfl ?_
  clear Hz az; intro az Hz
  have G3 := Gr.k hG (Only.refl NoF w)
  refine LCV (v := strV (Wr.numsE l)) Hz rfl rfl Tryd.call70 (listI_v_ G3 f1 hl hb) rfl fun w4 o5 => ?_
  clear Hz az; intro az Hz
  refine L (r_as Hz rfl) Hz rfl ?_
  clear Hz az; intro az Hz
  refine hK2 _ _ ?_
  refine wp_ret ?_
  show bodyPost _ _ _ .ret _ _
  refine ret_of (vs := [strV (Wr.numsE l)]) Hz Tryd.results23 ⟨rfl, trivial⟩ ?_
  exact ⟨rfl, o5⟩

theorem Nums_v {w : World} {v : Value} {l : List Int} (hG : Gr w) (h : IntsV w v l) (hl : l.length ≤ 1000000) (hb : (l.flatMap Wr.intE).length ≤ 1000000000) : Calls Tryd.prog 23 #[v] w (Fix (strV (Wr.numsE l)) w) := by
  obtain ⟨A1, c1, rfl, _⟩ := SliceOf.shape h
  exact Nums_v_ hG h hl hb

set_option maxRecDepth 20000 in
set_option maxHeartbeats 4000000 in
theorem listS_v_ {w : World} {l : List Str} {A1 : Option Addr} {c1 : Nat} (hG : Gr w) (f1 : StrsV w (.slice A1 l.length c1) l) (hl : l.length ≤ 1000000) (hb : (l.flatMap Wr.textE).length ≤ 1000000000) : Calls Tryd.prog 71 [.slice A1 l.length c1, .func (.func 21) #[] #[]].toArray w (Fix (strV (Wr.listE Wr.textE l)) w) := by
  refine calls_start Tryd.func71 rfl rfl ?_
  intro az Hz
  rw [Tryd.ntmps71] at Hz
  refine wp_seq_k fun K1 hK1 => ?_
  -- wire.go:27
  refine wp_region_lit ?_
  refine L (r_as Hz rfl) Hz rfl ?_
  clear Hz az; intro az Hz
  refine hK1 _ _ ?_
  refine wp_seq_k fun K2 hK2 => ?_
  -- wire.go:28
  refine wp_region_lit ?_
  refine LAl (v := .agg #[.pointer none, .slice none (0) 0]) Tryd.zeroValue97 Hz rfl rfl ?_
  clear Hz az; intro g3 w4 hg7 hl8 o5 B6 az Hz
  refine hK2 _ _ ?_
  refine wp_seq_k fun K9 hK9 => ?_
  -- wire.go:29
  refine wp_region_lit ?_
  refine L (r_mv Hz rfl) Hz rfl ?_
  clear Hz az; intro az Hz
  refine L (r_lenL Tryd.underlying23 Hz rfl) Hz rfl ?_
  clear Hz az; intro az Hz
  have G10 := Gr.k hG o5
  refine LCV (v := strV (Lib.itoa ((l.length : Nat) : Int))) Hz rfl rfl Tryd.call68 (itoa_v G10 ((l.length : Nat) : Int) (by unfold Wr.Ok; omega)) rfl fun w11 o12 => ?_
  clear Hz az; intro az Hz
  refine L (r_addS Hz rfl rfl (by simp only [List.length_append, List.length_cons, List.length_nil]; have hq := itoa_len ((l.length : Nat) : Int) (by omega) (by omega); omega)) Hz rfl ?_
  clear Hz az; intro az Hz
  have B16 := (Blk.k B6 o12)
  have h13 := Bld.new hg7 B16
  have hb14 : w.heap.size ≤ w.heap.size := (Nat.le_refl _)
  have O17 : Only NoF w w11 := (Only.trans' o5 o12)
  have hb15 : w.heap.size ≤ w11.heap.size := (size_only O17)
  have hl21 : List.length (([] : Str)) + List.length (Lib.itoa ((l.length : Nat) : Int) ++ [91]) ≤ 140737488355328 := by have hq := itoa_len ((l.length : Nat) : Int) (by omega) (by omega); simp only [List.length_append, List.length_cons, List.length_nil]; omega
  refine LC Hz rfl rfl Tryd.call91 (ws_v h13 (Lib.itoa ((l.length : Nat) : Int) ++ [91]) hl21 hb15) rfl ?_
  rintro e w18 ⟨rfl, h19, o20⟩; refine ⟨_, rfl, ?_⟩
  rw [List.nil_append] at h19
  clear Hz az; intro az Hz
  refine hK9 _ _ ?_
  refine wp_seq_k fun K22 hK22 => ?_
  refine wp_seq_k fun K23 hK23 => ?_
  -- wire.go:30
  refine wp_region_lit ?_
  refine L (r_mv Hz rfl) Hz rfl ?_
  clear Hz az; intro az Hz
  refine L (r_lenL Tryd.underlying23 Hz rfl) Hz rfl ?_
  clear Hz az; intro az Hz
  refine L (r_mv Hz rfl) Hz rfl ?_
  clear Hz az; intro az Hz
  refine hK23 _ _ ?_
  refine wp_block ?_
  refine wp_loop_m (fun mz az W => ∃ k : Nat, mz = l.length - k ∧ Fr 26 [(1, .func (.func 21) #[] #[]), (5, .pointer (some ((⟨g3, 0, none⟩ : Addr)))), (13, .slice A1 (l.length) c1), (14, .int .i64 (((l.length : Nat) : Int))), (15, .int .i64 ((k : Int)))] az ∧ (k ≤ l.length) ∧ Only NoF w W ∧ Bld (w.heap.size) g3 ((Lib.itoa ((List.length (l) : Nat) : Int) ++ [91]) ++ List.flatMap Wr.textE (List.take k l)) W ∧ w.heap.size ≤ W.heap.size) ?_ ?_
  · -- start
    have O24 := (Only.trans (Only.refl (fun _ => True) w11) o20 (fun _ _ => .inl trivial))
    have O25 : Only NoF w w18 := (o_sg O17 o20 (Nat.le_refl _) (fun _ h => Nat.le_trans hb14 h))
    exact ⟨_, 0, rfl, Hz.cut ⟨rfl, rfl, rfl, rfl, rfl, trivial⟩, Nat.zero_le _, O25, (by simpa using h19), (Nat.le_trans hb15 (size_only O24))⟩
  clear Hz az
  rintro mz az w26 ⟨k, hm28, Hz, hk, o27, hbd, hbw⟩
  have hft := flat_take_le Wr.textE l k
  refine wp_seq_k fun K29 hK29 => ?_
  -- wire.go:30
  refine wp_region_lit ?_
  refine L (r_ltI Hz rfl rfl) Hz rfl ?_
  clear Hz az; intro az Hz
  refine hK29 _ _ ?_
  refine wp_seq_k fun K30 hK30 => ?_
  refine br Hz rfl (fun hc31 => ?_) (fun hc31 => ?_)
  · -- if0
    have p32 := of_decide_eq_true hc31
    refine wp_skip ?_
    refine hK30 _ _ ?_
    refine wp_seq_k fun K33 hK33 => ?_
    refine wp_block ?_
    refine wp_seq_k fun K34 hK34 => ?_
    -- wire.go:30
    refine wp_region_lit ?_
    have hk35 : k < (l).length := by omega
    have h41 := (SliceOf.kp f1 o27 (fun _ _ h => h) (fun _ _ _ _ h => h))
    obtain ⟨m36, hm37, ok38, hA39⟩ := Row.el KStr h41 hk35
    have E40 : ∀ W, Only NoF w26 W → CA W (eA A1 1 (k)) [strV (m36)] := Row.ce KStr h41 hm37 rfl
    refine L (r_ia (k := k) (size := 1) Tryd.underlying23 Tryd.sizeOf9 Hz rfl rfl rfl hk35 hA39) Hz rfl ?_
    clear Hz az; intro az Hz
    refine L (r_ld Tryd.isAgg9 Hz rfl (CA.first (E40 _ (Only.refl NoF w26)))) Hz rfl ?_
    clear Hz az; intro az Hz
    refine L (r_as Hz rfl) Hz rfl ?_
    clear Hz az; intro az Hz
    refine hK34 _ _ ?_
    -- wire.go:31
    refine wp_region_lit ?_
    refine L (r_mv Hz rfl) Hz rfl ?_
    clear Hz az; intro az Hz
    refine L (r_mv Hz rfl) Hz rfl ?_
    clear Hz az; intro az Hz
    have hst := flat_step Wr.textE hm37
    have hst2 := flat_take_le Wr.textE l (k + 1); rw [hst, List.length_append] at hst2
    have G42 := Gr.k hG o27
    refine LCV (v := strV (Wr.textE m36)) Hz rfl rfl Tryd.call21 (Text_v G42 m36 (text_len ok38 (Nat.le_trans hst2 hb))) rfl fun w43 o44 => ?_
    clear Hz az; intro az Hz
    have h45 := Bld.k hbd o44
    have hl49 : List.length ((Lib.itoa ((List.length (l) : Nat) : Int) ++ [91]) ++ List.flatMap Wr.textE (List.take k l)) + List.length (Wr.textE m36) ≤ 140737488355328 := by have hq := itoa_len ((l.length : Nat) : Int) (by omega) (by omega); simp only [List.length_append, List.length_cons, List.length_nil]; omega
    refine LC Hz rfl rfl Tryd.call91 (ws_v h45 (Wr.textE m36) hl49 (Nat.le_trans hbw (size_only o44))) rfl ?_
    rintro e w46 ⟨rfl, h47, o48⟩; refine ⟨_, rfl, ?_⟩
    clear Hz az; intro az Hz
    refine hK33 _ _ ?_
    -- wire.go:30
    refine wp_region_lit ?_
    have i50 : I64 (((k : Int) + 1)) := by unfold I64; have hq := itoa_len ((l.length : Nat) : Int) (by omega) (by omega); omega
    refine L (r_addI (r := ((k : Int) + 1)) Hz rfl rfl rfl i50) Hz rfl ?_
    clear Hz az; intro az Hz
    refine L (r_mv Hz rfl) Hz rfl ?_
    clear Hz az; intro az Hz
    have O51 := (Only.trans (Only.trans (Only.refl (fun _ => True) w26) o44 (fun _ _ => .inl trivial)) o48 (fun _ _ => .inl trivial))
    have O52 : Only NoF w w46 := (o_sg (Only.trans' o27 o44) o48 (Nat.le_refl _) (fun _ h => Nat.le_trans hb14 h))
    exact ⟨_, (by omega), k + 1, rfl, Hz.cut ⟨rfl, rfl, rfl, rfl, rfl, trivial⟩, (by omega), O52, (by rw [hst, ← List.append_assoc]; exact h47), (Nat.le_trans hbw (size_only O51))⟩
  · -- else0
    have p53 := of_decide_eq_false hc31
    refine wp_exit ?_
    refine th_exit ?_
    refine th_exit ?_
    refine ib_hit ?_
    refine hK22 _ _ ?_
    refine wp_seq_k fun K54 hK54 => ?_
    -- wire.go:33
    refine wp_region_lit ?_
    refine LC Hz rfl rfl Tryd.call92 (bs_v hbd hbw) rfl ?_
    rintro e w55 ⟨rfl, o56⟩; refine ⟨_, rfl, ?_⟩
    clear Hz az; intro az Hz
    refine L (r_addS Hz rfl rfl (by simp only [List.length_append, List.length_cons, List.length_nil]; have hq := itoa_len ((l.length : Nat) : Int) (by omega) (by omega); omega)) Hz rfl ?_
    clear Hz az; intro az Hz
    refine L (r_as Hz rfl) Hz rfl ?_
    clear Hz az; intro az Hz
    refine hK54 _ _ ?_
    refine wp_ret ?_
    show bodyPost _ _ _ .ret _ _
    refine ret_of (vs := [strV ((Lib.itoa ((List.length (l) : Nat) : Int) ++ [91]) ++ List.flatMap Wr.textE (List.take k l) ++ [93])]) Hz Tryd.results71 ⟨rfl, trivial⟩ ?_
    rw [List.take_of_length_le (show l.length ≤ k by omega)]
    have O57 : Only NoF w w55 := (o_sg o27 o56 (Nat.le_refl _) (fun _ h => Nat.le_trans hb14 h))
    exact ⟨rfl, O57⟩

set_option maxRecDepth 20000 in
set_option maxHeartbeats 4000000 in
theorem Texts_v_ {w : World} {l : List Str} {A1 : Option Addr} {c1 : Nat} (hG : Gr w) (f1 : StrsV w (.slice A1 l.length c1) l) (hl : l.length ≤ 1000000) (hb : (l.flatMap Wr.textE).length ≤ 1000000000) : Calls Tryd.prog 25 [.slice A1 l.length c1].toArray w (Fix (strV (Wr.textsE l)) w) := by
  refine calls_start Tryd.func25 rfl rfl ?_
  intro az Hz
  rw [Tryd.ntmps25] at Hz
  refine wp_seq_k fun K1 hK1 => ?_
  -- wire.go:40
  refine wp_region_lit ?_
  refine L (r_as Hz rfl) Hz rfl ?_
  clear Hz az; intro az Hz
  refine hK1 _ _ ?_
  refine wp_seq_k fun K2 hK2 => ?_
  -- wire.go:40
  refine wp_region_lit ?_
  refine L (r_mv Hz rfl) Hz rfl ?_
  clear Hz az; intro az Hz
  have G3 := Gr.k hG (Only.refl NoF w)
  refine LCV (v := strV (Wr.textsE l)) Hz rfl rfl Tryd.call71 (listS_v_ G3 f1 hl hb) rfl fun w4 o5 => ?_
  clear Hz az; intro az Hz
  refine L (r_as Hz rfl) Hz rfl ?_
  clear Hz az; intro az Hz
  refine hK2 _ _ ?_
  refine wp_ret ?_
  show bodyPost _ _ _ .ret _ _
  refine ret_of (vs := [strV (Wr.textsE l)]) Hz Tryd.results25 ⟨rfl, trivial⟩ ?_
  exact ⟨rfl, o5⟩

theorem Texts_v {w : World} {v : Value} {l : List Str} (hG : Gr w) (h : StrsV w v l) (hl : l.length ≤ 1000000) (hb : (l.flatMap Wr.textE).length ≤ 1000000000) : Calls Tryd.prog 25 #[v] w (Fix (strV (Wr.textsE l)) w) := by
  obtain ⟨A1, c1, rfl, _⟩ := SliceOf.shape h
  exact Texts_v_ hG h hl hb
end Go.Proofs.YtgmnoianhonihaaDoor
