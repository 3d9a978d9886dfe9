/-
  The seal: Encode, walked. No condition but the listed variables.
-/
import Derived.Test.YtgmnoianhonihaaDoorSW2
import Derived.Test.YtgmnoianhonihaaDoorWW3
namespace Go.Proofs.YtgmnoianhonihaaDoor
set_option linter.unusedVariables false
set_option linter.unusedSimpArgs false
set_option linter.unusedSectionVars false
open Go.RowKit

def flat2 (l : List RM) : List Int := l.flatMap fun r => [r.h, r.n]
theorem flat2_len (l : List RM) : (flat2 l).length = 2 * l.length := by
  induction l with
  | nil => rfl
  | cons x l ih => unfold flat2 at *; rw [List.flatMap_cons, List.length_append, ih]; simp only [List.length_cons, List.length_nil]; omega
def encN (m : NM) : Str := Wr.numE m.h ++ Wr.numE m.n ++ Wr.numE m.d ++ Wr.numsE (flat2 m.l) ++ Wr.textE m.s
theorem right_len {m : NM} (h : right m = true) : m.l.length ≤ 40 ∧ m.s.length ≤ 8000 := by
  unfold right headBad at h
  simp only [Bool.and_eq_true, Bool.not_eq_true', Bool.or_eq_false_iff, decide_eq_false_iff_not] at h
  omega
theorem text_size2 {s : Str} (h : s.length ≤ 1000000000) : (Wr.textE s).length ≤ s.length + 22 := by
  have := itoa_len ((s.length : Nat) : Int) (by omega) (by omega)
  simp only [Wr.textE, List.length_append, List.length_singleton]; omega
theorem intE_len {n : Int} (h : Wr.Ok n) : (Wr.intE n).length ≤ 21 := by
  have := itoa_len n h.1 h.2
  unfold Wr.intE; rw [List.length_append, List.length_singleton]; omega
theorem numE_len {n : Int} (h : Wr.Ok n) : (Wr.numE n).length ≤ 21 := by
  unfold Wr.numE
  split
  · simp
  · exact intE_len h
theorem ints_bytes {l : List Int} (h : ∀ x ∈ l, KInt.ok x) (hl : l.length ≤ 80) : (l.flatMap Wr.intE).length ≤ 1000000000 := by
  have := flat_len_le Wr.intE 21 l fun x hx => intE_len (wr_ok (h x hx))
  omega
theorem numsE_len {l : List Int} (h : ∀ x ∈ l, KInt.ok x) (hl : l.length ≤ 80) : (Wr.numsE l).length ≤ 2000 := by
  have := flat_len_le Wr.intE 21 l fun x hx => intE_len (wr_ok (h x hx))
  have := itoa_len ((l.length : Nat) : Int) (by omega) (by omega)
  simp only [Wr.numsE, Wr.listE, List.length_append, List.length_singleton]; omega
set_option maxRecDepth 20000 in
set_option maxHeartbeats 4000000 in
theorem Encode_v {w : World} (hG : Gr w) {m : NM} (hk1 : (KNote w).ok m) : Calls Tryd.prog 55 [.agg #[.int .i64 m.h, .int .i64 m.n, .int .i64 m.d, .slice m.A m.l.length m.c, strV m.s]].toArray w (Fix (.tuple #[strV (if right m = true then encN m else []), .bool (right m)]) w) := by
  obtain ⟨_, _, _, h1, _⟩ := id hk1
  refine calls_start Tryd.func55 rfl rfl ?_
  intro az Hz
  rw [Tryd.ntmps55] at Hz
  refine wp_seq_k fun K1 hK1 => ?_
  -- seal.go:77
  refine wp_region_lit ?_
  refine LBox Hz rfl rfl rfl ?_
  clear Hz az; intro g2 w3 hg6 hl7 o4 B5 az Hz
  refine L (r_as Hz rfl) Hz rfl ?_
  clear Hz az; intro az Hz
  refine L (r_as Hz rfl) Hz rfl ?_
  clear Hz az; intro az Hz
  refine hK1 _ _ ?_
  refine wp_seq_k fun K8 hK8 => ?_
  refine wp_seq_k fun K9 hK9 => ?_
  -- seal.go:78
  refine wp_region_lit ?_
  refine L (r_ldA Tryd.isAgg54 Tryd.sizeOf54 Hz rfl (Blk.ca B5) rfl) Hz rfl ?_
  clear Hz az; intro az Hz
  have h10 := (SliceOf.kp h1 o4 (fun _ _ h => h) (fun _ _ _ _ h => h))
  refine LCV (v := .bool (right m)) Hz rfl rfl Tryd.call62 (Right_v h10) rfl fun w11 o12 => ?_
  clear Hz az; intro az Hz
  refine L (r_not Hz rfl) Hz rfl ?_
  clear Hz az; intro az Hz
  refine hK9 _ _ ?_
  refine br Hz rfl (fun hc13 => ?_) (fun hc13 => ?_)
  · -- if0
    have q14 : right m = false := (nt_t hc13)
    refine wp_seq_k fun K15 hK15 => ?_
    -- seal.go:79
    refine wp_region_lit ?_
    refine L (r_as Hz rfl) Hz rfl ?_
    clear Hz az; intro az Hz
    refine L (r_as Hz rfl) Hz rfl ?_
    clear Hz az; intro az Hz
    refine hK15 _ _ ?_
    refine wp_ret ?_
    show bodyPost _ _ _ .ret _ _
    refine ret_of (vs := [strV ([]), .bool (false)]) Hz Tryd.results55 ⟨rfl, rfl, trivial⟩ ?_
    have O16 : Only NoF w w11 := (Only.trans' o4 o12)
    rw [show right m = false from nt_t hc13]; exact ⟨rfl, O16⟩
  · -- else0
    have q17 : right m = true := (nt_f hc13)
    have hrt : right m = true := nt_f hc13
    obtain ⟨hrl, hrs⟩ := right_len hrt
    refine wp_skip ?_
    refine hK8 _ _ ?_
    refine wp_seq_k fun K18 hK18 => ?_
    -- seal.go:81
    refine wp_region_lit ?_
    refine L (r_as Hz rfl) Hz rfl ?_
    clear Hz az; intro az Hz
    refine hK18 _ _ ?_
    refine wp_seq_k fun K19 hK19 => ?_
    refine wp_seq_k fun K20 hK20 => ?_
    -- seal.go:82
    refine wp_region_lit ?_
    refine L (r_fa (m' := 3) Tryd.underlying54 rfl Tryd.sizeOf52 rfl Hz rfl rfl) Hz rfl ?_
    clear Hz az; intro az Hz
    have B21 := (Blk.k B5 o12)
    refine L (r_ld Tryd.isAgg52 Hz rfl ((Blk.ca B21) 3 _ rfl)) Hz rfl ?_
    clear Hz az; intro az Hz
    refine L (r_lenL Tryd.underlying52 Hz rfl) Hz rfl ?_
    clear Hz az; intro az Hz
    refine L (r_mv Hz rfl) Hz rfl ?_
    clear Hz az; intro az Hz
    refine hK20 _ _ ?_
    refine wp_block ?_
    refine wp_loop_m (fun mz az W => ∃ k : Nat, ∃ O : List Int, ∃ Ao : Option Addr, ∃ co : Nat, mz = m.l.length - k ∧ Fr 43 [(1, .pointer (some ((⟨g2, 0, none⟩ : Addr)))), (11, .slice m.A (m.l.length) m.c), (12, .int .i64 (((m.l.length : Nat) : Int))), (13, .int .i64 ((k : Int))), (4, .slice Ao (O.length) co)] az ∧ (k ≤ m.l.length) ∧ (O = flat2 (m.l.take k)) ∧ (∀ z ∈ O, KInt.ok z) ∧ Only NoF w W ∧ Blk W g2 54 [.int .i64 (m.h), .int .i64 (m.n), .int .i64 (m.d), .slice m.A (m.l.length) m.c, strV (m.s)].toArray ∧ W.ownsRow w.heap.size 3 1 (.slice Ao O.length co) O.length (List.flatMap KInt.cells O)) ?_ ?_
    · -- start
      have O22 : Only NoF w w11 := (Only.trans' o4 o12)
      exact ⟨_, 0, [], none, 0, rfl, Hz.cut ⟨rfl, rfl, rfl, rfl, rfl, trivial⟩, Nat.zero_le _, rfl, (fun z hz => by cases hz), O22, B21, (World.ownsRow_nil _ _ _ _)⟩
    clear Hz az
    rintro mz az w23 ⟨k, O, Ao, co, hm25, Hz, hk, hO, okO, o24, B26, rO⟩
    have hOl : O.length = 2 * k := by rw [hO, flat2_len, List.length_take]; omega
    refine wp_seq_k fun K27 hK27 => ?_
    -- seal.go:82
    refine wp_region_lit ?_
    refine L (r_ltI Hz rfl rfl) Hz rfl ?_
    clear Hz az; intro az Hz
    refine hK27 _ _ ?_
    refine wp_seq_k fun K28 hK28 => ?_
    refine br Hz rfl (fun hc29 => ?_) (fun hc29 => ?_)
    · -- if1
      have p30 := of_decide_eq_true hc29
      refine wp_skip ?_
      refine hK28 _ _ ?_
      refine wp_seq_k fun K31 hK31 => ?_
      refine wp_block ?_
      refine wp_seq_k fun K32 hK32 => ?_
      -- seal.go:82
      refine wp_region_lit ?_
      have hk33 : k < (m.l).length := by omega
      have h39 := (SliceOf.kp h1 o24 (fun _ _ h => h) (fun _ _ _ _ h => h))
      obtain ⟨m34, hm35, ok36, hA37⟩ := Row.el KRef h39 hk33
      have E38 : ∀ W, Only NoF w23 W → CA W (eA m.A 2 (k)) [.int .i64 (m34.h), .int .i64 (m34.n)] := Row.ce KRef h39 hm35 rfl
      refine L (r_ia (k := k) (size := 2) Tryd.underlying52 Tryd.sizeOf71 Hz rfl rfl rfl hk33 hA37) Hz rfl ?_
      clear Hz az; intro az Hz
      refine L (r_ldA Tryd.isAgg71 Tryd.sizeOf71 Hz rfl (E38 _ (Only.refl NoF w23)) rfl) Hz rfl ?_
      clear Hz az; intro az Hz
      refine LAl (v := .agg #[.int .i64 (0), .int .i64 (0)]) Tryd.zeroValue71 Hz rfl rfl ?_
      clear Hz az; intro g40 w41 hg44 hl45 o42 B43 az Hz
      refine LSt (cs' := [.int .i64 (m34.h), .int .i64 (m34.n)]) Tryd.sizeOf71 Hz rfl rfl rfl rfl rfl ⟨rfl, rfl, trivial⟩ B43 rfl rfl fun w46 s47 B48 => ?_
      refine hK32 _ _ ?_
      -- seal.go:83
      refine wp_region_lit ?_
      refine L (r_mv Hz rfl) Hz rfl ?_
      clear Hz az; intro az Hz
      refine L (r_fa (m' := 0) Tryd.underlying71 rfl Tryd.sizeOf3 rfl Hz rfl rfl) Hz rfl ?_
      clear Hz az; intro az Hz
      refine L (r_ld Tryd.isAgg3 Hz rfl ((Blk.ca B48) 0 _ rfl)) Hz rfl ?_
      clear Hz az; intro az Hz
      refine L (r_fa (m' := 1) Tryd.underlying71 rfl Tryd.sizeOf3 rfl Hz rfl rfl) Hz rfl ?_
      clear Hz az; intro az Hz
      refine L (r_ld Tryd.isAgg3 Hz rfl ((Blk.ca B48) 1 _ rfl)) Hz rfl ?_
      clear Hz az; intro az Hz
      obtain ⟨A49, w50, hw, hA, r51, o52⟩ := Row.made (w := w46) KInt (e := 3) ([m34.h, m34.n] : List Int) (by simp only [List.length_cons, List.length_nil]; unfold maxLen; omega)
      refine L (r_bs (z := .int .i64 (0)) (size := 1) (vs := [(0, .int .i64 (m34.h)), (1, .int .i64 (m34.n))]) (cs := List.flatMap KInt.cells [m34.h, m34.n]) Tryd.underlying22 Tryd.sizeOf3 Tryd.zeroValue3 rfl (Fr.evalps Hz rfl) (by kernel_rfl)) Hz rfl ?_
      rw [← hw, ← hA]; clear Hz az; intro az Hz
      clear hw hA
      have ok53 : ∀ zq ∈ ([m34.h, m34.n] : List Int), KInt.ok zq := by intro zq hx; simp only [List.mem_cons, List.not_mem_nil, or_false] at hx; rcases hx with rfl | rfl <;> first | exact ok36.1 | exact ok36.2
      have r54 := (ow_k (ow_only (ow_k rO o42) s47 (fun k hk => lt_F (oneF_ge hg44) (Nat.le_refl _) k (ownF_lt rO k hk))) o52)
      have h55 := Row.own KInt r51 ok53
      have h56 := SliceOf.pl h55
      have hb64 : (List.length (O) + List.length ([m34.h, m34.n])) * 8 ≤ 140737488355328 := by simp only [List.length_cons, List.length_nil]; omega
      have O65 : Only NoF w w50 := (Only.trans' (o_sg (Only.trans' o24 o42) s47 (size_only o24) (oneF_ge hg44)) o52)
      obtain ⟨A57, c58, w59, hr60, r61, o62, al63⟩ := Row.app (P := Tryd.prog) (l := O) (l2 := [m34.h, m34.n]) KInt elemInt r54 h56 hb64 (by unfold maxLen; omega) (size_only O65)
      refine L (r_app hr60 Hz rfl rfl) Hz rfl ?_
      clear Hz az; intro az Hz
      have ok66 : ∀ zq ∈ (O ++ [m34.h, m34.n]), KInt.ok zq := (fun x hx => (List.mem_append.1 hx).elim (okO x) ((Row.oks KInt h56) x))
      have h67 := Row.own KInt r61 ok66
      refine L (r_as Hz rfl) Hz rfl ?_
      clear Hz az; intro az Hz
      refine hK31 _ _ ?_
      -- seal.go:82
      refine wp_region_lit ?_
      have i68 : I64 (((k : Int) + 1)) := by unfold I64; omega
      refine L (r_addI (r := ((k : Int) + 1)) Hz rfl rfl rfl i68) Hz rfl ?_
      clear Hz az; intro az Hz
      refine L (r_mv Hz rfl) Hz rfl ?_
      clear Hz az; intro az Hz
      have O69 : Only NoF w w59 := (o_sg O65 o62 (Nat.le_refl _) (ownF_ge rO))
      have ne70 : g2 ≠ g40 := (ne_of (Blk.lt B26) hg44)
      have B71 := (Blk.only (Blk.k (Blk.st (Blk.k B26 o42) s47 ne70) o52) o62 (ow_nb r54 (Blk.k (Blk.st (Blk.k B26 o42) s47 ne70) o52) (by decide)))
      exact ⟨_, (by omega), k + 1, _, A57, c58, rfl, Hz.cut ⟨rfl, rfl, rfl, rfl, rfl, trivial⟩, (by omega), (by rw [hO, take_succ_get hm35, flat2, flat2, List.flatMap_append]; rfl), ok66, O69, B71, (ow_low r61 (Nat.le_refl _))⟩
    · -- else1
      have p72 := of_decide_eq_false hc29
      refine wp_exit ?_
      refine th_exit ?_
      refine th_exit ?_
      refine ib_hit ?_
      refine hK19 _ _ ?_
      refine wp_seq_k fun K73 hK73 => ?_
      -- seal.go:85
      refine reg_p NoF 5 [2, 5, 9, 12, 16] (.rd 0 (.rd 1 (.rd 3 (.rd 4 (.rd 7 (.rd 8 (.rd 11 (.rd 14 (.rd 15 (.ex 2 (.ex 5 (.rd 6 (.ex 9 (.rd 10 (.ex 12 (.rd 13 (.ex 16 (.rd 17 (.rd 18 (.rd 19 .nil)))))))))))))))))))) (by kernel_rfl) (by kernel_rfl) (fun _ _ _ _ _ h => h) fun w74 o75 => ?_
      have B76 := (Blk.k B26 o75)
      refine Pl.MSP (b := true) (by kernel_rfl) (fun W oW => r_fa (m' := 0) Tryd.underlying54 rfl Tryd.sizeOf3 rfl Hz rfl rfl) Hz rfl rfl ?_
      clear Hz az; intro az Hz
      refine Pl.MSP (b := true) (by kernel_rfl) (fun W oW => r_ld Tryd.isAgg3 Hz rfl ((Blk.ca (Blk.k B76 oW)) 0 _ rfl)) Hz rfl rfl ?_
      clear Hz az; intro az Hz
      refine Pl.MSP (b := true) (by kernel_rfl) (fun W oW => r_fa (m' := 1) Tryd.underlying54 rfl Tryd.sizeOf3 rfl Hz rfl rfl) Hz rfl rfl ?_
      clear Hz az; intro az Hz
      refine Pl.MSP (b := true) (by kernel_rfl) (fun W oW => r_ld Tryd.isAgg3 Hz rfl ((Blk.ca (Blk.k B76 oW)) 1 _ rfl)) Hz rfl rfl ?_
      clear Hz az; intro az Hz
      refine Pl.MSP (b := true) (by kernel_rfl) (fun W oW => r_fa (m' := 2) Tryd.underlying54 rfl Tryd.sizeOf3 rfl Hz rfl rfl) Hz rfl rfl ?_
      clear Hz az; intro az Hz
      refine Pl.MSP (b := true) (by kernel_rfl) (fun W oW => r_ld Tryd.isAgg3 Hz rfl ((Blk.ca (Blk.k B76 oW)) 2 _ rfl)) Hz rfl rfl ?_
      clear Hz az; intro az Hz
      refine Pl.MSP (b := true) (by kernel_rfl) (fun W oW => r_mv Hz rfl) Hz rfl rfl ?_
      clear Hz az; intro az Hz
      refine Pl.MSP (b := true) (by kernel_rfl) (fun W oW => r_fa (m' := 4) Tryd.underlying54 rfl Tryd.sizeOf9 rfl Hz rfl rfl) Hz rfl rfl ?_
      clear Hz az; intro az Hz
      refine Pl.MSP (b := true) (by kernel_rfl) (fun W oW => r_ld Tryd.isAgg9 Hz rfl ((Blk.ca (Blk.k B76 oW)) 4 _ rfl)) Hz rfl rfl ?_
      clear Hz az; intro az Hz
      have O78 : Only NoF w w74 := (Only.trans' o24 o75)
      have G77 := Gr.k hG O78
      refine Pl.MSV (v := strV (Wr.numE m.h)) Hz rfl rfl rfl Tryd.call17 (Num_v G77 m.h (wr_ok hk1.1)) rfl (fun w' o' => ⟨fun _ => o', (Only.trans (Only.refl NoF w74) o' (fun _ h => h.elim))⟩) fun w79 o80 => ?_
      clear Hz az; intro az Hz
      have O82 : Only NoF w w79 := (Only.trans' O78 o80)
      have G81 := Gr.k hG O82
      refine Pl.MSV (v := strV (Wr.numE m.n)) Hz rfl rfl rfl Tryd.call17 (Num_v G81 m.n (wr_ok hk1.2.1)) rfl (fun w' o' => ⟨fun _ => (Only.trans' o80 o'), (Only.trans (Only.trans (Only.refl NoF w74) o80 (fun _ h => h.elim)) o' (fun _ h => h.elim))⟩) fun w83 o84 => ?_
      clear Hz az; intro az Hz
      refine Pl.MSP (b := true) (by kernel_rfl) (fun W oW => r_addS Hz rfl rfl (by have e1 := numE_len (wr_ok hk1.1); have e2 := numE_len (wr_ok hk1.2.1); have e3 := numE_len (wr_ok hk1.2.2.1); have e4 := numsE_len (l := O) okO (by omega); have e5 := text_size2 (s := m.s) (by omega); (try simp only [List.length_append]); omega)) Hz rfl rfl ?_
      clear Hz az; intro az Hz
      have O86 : Only NoF w w83 := (Only.trans' O82 o84)
      have G85 := Gr.k hG O86
      refine Pl.MSV (v := strV (Wr.numE m.d)) Hz rfl rfl rfl Tryd.call17 (Num_v G85 m.d (wr_ok hk1.2.2.1)) rfl (fun w' o' => ⟨fun _ => (Only.trans' (Only.trans' o80 o84) o'), (Only.trans (Only.trans (Only.trans (Only.refl NoF w74) o80 (fun _ h => h.elim)) o84 (fun _ h => h.elim)) o' (fun _ h => h.elim))⟩) fun w87 o88 => ?_
      clear Hz az; intro az Hz
      refine Pl.MSP (b := true) (by kernel_rfl) (fun W oW => r_addS Hz rfl rfl (by have e1 := numE_len (wr_ok hk1.1); have e2 := numE_len (wr_ok hk1.2.1); have e3 := numE_len (wr_ok hk1.2.2.1); have e4 := numsE_len (l := O) okO (by omega); have e5 := text_size2 (s := m.s) (by omega); (try simp only [List.length_append]); omega)) Hz rfl rfl ?_
      clear Hz az; intro az Hz
      have h89 := Row.own KInt rO okO
      have O90 : Only NoF w23 w87 := (Only.trans' (Only.trans' (Only.trans' o75 o80) o84) o88)
      have h91 := (SliceOf.kp h89 O90 (fun _ _ h => h) (fun _ _ _ _ h => h))
      have h92 := SliceOf.pl h91
      have O94 : Only NoF w w87 := (Only.trans' O86 o88)
      have G93 := Gr.k hG O94
      refine Pl.MSV (v := strV (Wr.numsE O)) Hz rfl rfl rfl Tryd.call23 (Nums_v G93 h92 (by omega) (ints_bytes (l := O) (Row.oks KInt h92) (by omega))) rfl (fun w' o' => ⟨fun _ => (Only.trans' (Only.trans' (Only.trans' o80 o84) o88) o'), (Only.trans (Only.trans (Only.trans (Only.trans (Only.refl NoF w74) o80 (fun _ h => h.elim)) o84 (fun _ h => h.elim)) o88 (fun _ h => h.elim)) o' (fun _ h => h.elim))⟩) fun w95 o96 => ?_
      clear Hz az; intro az Hz
      refine Pl.MSP (b := true) (by kernel_rfl) (fun W oW => r_addS Hz rfl rfl (by have e1 := numE_len (wr_ok hk1.1); have e2 := numE_len (wr_ok hk1.2.1); have e3 := numE_len (wr_ok hk1.2.2.1); have e4 := numsE_len (l := O) okO (by omega); have e5 := text_size2 (s := m.s) (by omega); (try simp only [List.length_append]); omega)) Hz rfl rfl ?_
      clear Hz az; intro az Hz
      have O98 : Only NoF w w95 := (Only.trans' O94 o96)
      have G97 := Gr.k hG O98
      refine Pl.MSV (v := strV (Wr.textE m.s)) Hz rfl rfl rfl Tryd.call21 (Text_v G97 m.s (by omega)) rfl (fun w' o' => ⟨fun _ => (Only.trans' (Only.trans' (Only.trans' (Only.trans' o80 o84) o88) o96) o'), (Only.trans (Only.trans (Only.trans (Only.trans (Only.trans (Only.refl NoF w74) o80 (fun _ h => h.elim)) o84 (fun _ h => h.elim)) o88 (fun _ h => h.elim)) o96 (fun _ h => h.elim)) o' (fun _ h => h.elim))⟩) fun w99 o100 => ?_
      clear Hz az; intro az Hz
      refine Pl.MSP (b := true) (by kernel_rfl) (fun W oW => r_addS Hz rfl rfl (by have e1 := numE_len (wr_ok hk1.1); have e2 := numE_len (wr_ok hk1.2.1); have e3 := numE_len (wr_ok hk1.2.2.1); have e4 := numsE_len (l := O) okO (by omega); have e5 := text_size2 (s := m.s) (by omega); (try simp only [List.length_append]); omega)) Hz rfl rfl ?_
      clear Hz az; intro az Hz
      refine Pl.MSP (b := true) (by kernel_rfl) (fun W oW => r_as Hz rfl) Hz rfl rfl ?_
      clear Hz az; intro az Hz
      refine Pl.MSP (b := true) (by kernel_rfl) (fun W oW => r_as Hz rfl) Hz rfl rfl ?_
      clear Hz az; intro az Hz
      refine wpPl_nil ?_
      refine hK73 _ _ ?_
      refine wp_ret ?_
      show bodyPost _ _ _ .ret _ _
      refine ret_of (vs := [strV (Wr.numE m.h ++ Wr.numE m.n ++ Wr.numE m.d ++ Wr.numsE O ++ Wr.textE m.s), .bool (true)]) Hz Tryd.results55 ⟨rfl, rfl, trivial⟩ ?_
      have O101 : Only NoF w w99 := (Only.trans' O98 o100)
      rw [List.take_of_length_le (by omega)] at hO
      rw [hrt, if_pos rfl]; unfold encN; rw [← hO]; exact ⟨rfl, O101⟩
end Go.Proofs.YtgmnoianhonihaaDoor
