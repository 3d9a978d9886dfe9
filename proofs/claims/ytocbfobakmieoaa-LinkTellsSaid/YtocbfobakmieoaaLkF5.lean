/-
  The link's reference: Run, walked. Condition: at most 1,000,000 cuts and events.
-/
import Derived.Test.YtocbfobakmieoaaLkF4
namespace Go.Proofs.Ytocbfobakmieoaa
set_option linter.unusedVariables false
set_option linter.unusedSimpArgs false
set_option linter.unusedSectionVars false
open Go.RowKit

theorem zeroErr (w : World) : (zeroValue 32).run Try.prog w = .ok (.int .i64 0) w := by kernel_rfl
namespace Lnk
/-- what the switch leaves -/
def DoI (a : Air) (x : Ev) (e : Int) (nx : Air) (m : Msg) : Prop := e = (do_ a x).2.2 ∧ (e = 0 → nx = (do_ a x).1 ∧ (do_ a x).2.1 = if x.k = 1 then [m] else [])
theorem run_facts {a : Air} {l : List Ev} {k : Nat} {N : Air} {CM : List Msg} {ES : List Int} (hr : right a = true) (h : runs a (l.take k) = (N, CM, ES)) (hk : k ≤ l.length) : right N = true ∧ N.cs.length ≤ a.cs.length + k ∧ CM.length ≤ k ∧ ES.length = k := by
  have h1 := right_runs (l := l.take k) hr
  have h2 := runs_cuts a (l.take k)
  have h3 := runs_came a (l.take k)
  have h4 := runs_len (l.take k) a
  rw [h] at h1 h2 h3 h4
  rw [List.length_take, Nat.min_eq_left hk] at h2 h3 h4
  exact ⟨h1, h2, h3, h4⟩
theorem run_st {a : Air} {l : List Ev} {k : Nat} {N : Air} {CM : List Msg} {ES : List Int} {x : Ev} (h : runs a (l.take k) = (N, CM, ES)) (hm : l[k]? = some x) : runs a (l.take (k + 1)) = (next N x, CM ++ (do_ N x).2.1, ES ++ [(do_ N x).2.2]) := by
  obtain ⟨hk, rfl⟩ := List.getElem?_eq_some_iff.1 hm
  rw [runs_step a l k hk, h]
theorem run_step1 {a : Air} {l : List Ev} {k : Nat} {N NX : Air} {CM : List Msg} {ES : List Int} {x : Ev} {e : Int} {m : Msg} (h : runs a (l.take k) = (N, CM, ES)) (hm : l[k]? = some x) (hd : DoI N x e NX m) (he : e = 0) (hk : x.k = 1) : runs a (l.take (k + 1)) = (NX, CM ++ [m], ES ++ [e]) := by
  obtain ⟨h1, h2⟩ := hd
  obtain ⟨h3, h4⟩ := h2 he
  rw [run_st h hm, h4, if_pos hk, ← h1, h3]
  unfold next
  rw [if_pos (h1.symm.trans he)]
theorem run_step2 {a : Air} {l : List Ev} {k : Nat} {N NX : Air} {CM : List Msg} {ES : List Int} {x : Ev} {e : Int} {m : Msg} (h : runs a (l.take k) = (N, CM, ES)) (hm : l[k]? = some x) (hd : DoI N x e NX m) (he : e = 0) (hk : ¬ x.k = 1) : runs a (l.take (k + 1)) = (NX, CM, ES ++ [e]) := by
  obtain ⟨h1, h2⟩ := hd
  obtain ⟨h3, h4⟩ := h2 he
  rw [run_st h hm, h4, if_neg hk, ← h1, h3, List.append_nil]
  unfold next
  rw [if_pos (h1.symm.trans he)]
theorem run_step3 {a : Air} {l : List Ev} {k : Nat} {N NX : Air} {CM : List Msg} {ES : List Int} {x : Ev} {e : Int} {m : Msg} (h : runs a (l.take k) = (N, CM, ES)) (hm : l[k]? = some x) (hd : DoI N x e NX m) (he : ¬ e = 0) : runs a (l.take (k + 1)) = (N, CM, ES ++ [e]) := by
  obtain ⟨h1, _⟩ := hd
  have h0 : (do_ N x).2.2 ≠ 0 := by rw [← h1]; exact he
  rw [run_st h hm, do_bad h0, ← h1, List.append_nil]
  unfold next
  rw [if_neg h0]
section
variable {a : Air} {x : Ev}
theorem do_k0 (h : x.k = 0) : DoI a x (send a ⟨x.a, x.b, x.t⟩).2 (send a ⟨x.a, x.b, x.t⟩).1 noM := by
  unfold DoI do_; rw [if_pos h]; exact ⟨rfl, fun _ => ⟨rfl, by rw [if_neg (by omega)]⟩⟩
theorem do_k1 (h0 : ¬ x.k = 0) (h : x.k = 1) : DoI a x (deliver a x.a).2.2 (deliver a x.a).1 (deliver a x.a).2.1 := by
  unfold DoI do_; rw [if_neg h0, if_pos h]; exact ⟨rfl, fun h1 => ⟨rfl, by rw [if_pos h, if_pos h1]⟩⟩
theorem do_k2 (h0 : ¬ x.k = 0) (h1 : ¬ x.k = 1) (h : x.k = 2) : DoI a x (lose a x.a).2 (lose a x.a).1 noM := by
  unfold DoI do_; rw [if_neg h0, if_neg h1, if_pos h]; exact ⟨rfl, fun _ => ⟨rfl, by rw [if_neg h1]⟩⟩
theorem do_k3 (h0 : ¬ x.k = 0) (h1 : ¬ x.k = 1) (h2 : ¬ x.k = 2) (h : x.k = 3) : DoI a x (double a x.a).2 (double a x.a).1 noM := by
  unfold DoI do_; rw [if_neg h0, if_neg h1, if_neg h2, if_pos h]; exact ⟨rfl, fun _ => ⟨rfl, by rw [if_neg h1]⟩⟩
theorem do_k4 (h0 : ¬ x.k = 0) (h1 : ¬ x.k = 1) (h2 : ¬ x.k = 2) (h3 : ¬ x.k = 3) (h : x.k = 4) : DoI a x (cut a x.a x.b).2 (cut a x.a x.b).1 noM := by
  unfold DoI do_; rw [if_neg h0, if_neg h1, if_neg h2, if_neg h3, if_pos h]; exact ⟨rfl, fun _ => ⟨rfl, by rw [if_neg h1]⟩⟩
theorem do_k5 (h0 : ¬ x.k = 0) (h1 : ¬ x.k = 1) (h2 : ¬ x.k = 2) (h3 : ¬ x.k = 3) (h4 : ¬ x.k = 4) (h : x.k = 5) : DoI a x (heal a x.a x.b).2 (heal a x.a x.b).1 noM := by
  unfold DoI do_; rw [if_neg h0, if_neg h1, if_neg h2, if_neg h3, if_neg h4, if_pos h]; exact ⟨rfl, fun _ => ⟨rfl, by rw [if_neg h1]⟩⟩
theorem do_k6 (h0 : ¬ x.k = 0) (h1 : ¬ x.k = 1) (h2 : ¬ x.k = 2) (h3 : ¬ x.k = 3) (h4 : ¬ x.k = 4) (h5 : ¬ x.k = 5) : DoI a x 1 none_ noM := by
  unfold DoI do_; rw [if_neg h0, if_neg h1, if_neg h2, if_neg h3, if_neg h4, if_neg h5]; exact ⟨rfl, fun h => by cases h⟩
theorem del_ok (a : Air) (h : ∀ m ∈ a.ms, KMsg.ok m) (i : Int) : MsgOk (deliver a i).2.1 := by
  have h0 : MsgOk noM := by unfold MsgOk noM I64 maxLen; simp
  unfold deliver
  split
  · exact h0
  split
  · exact h0
  · rename_i hb _
    simp only [Classical.not_not] at hb
    obtain ⟨_, h1, h2⟩ := bad_zero hb
    exact h _ (msg_mem h1 h2)
end
theorem run_no {a : Air} {l : List Ev} (h : (!right a) = true) : run a l = (none_, [], []) := by unfold run; rw [if_pos (nt_t h)]
theorem run_yes {a : Air} {l : List Ev} {k : Nat} {r : Air × List Msg × List Int} (hr : right a = true) (h : runs a (l.take k) = r) (hk : l.length ≤ k) : run a l = r := by
  unfold run; rw [if_neg (by rw [hr]; decide), ← h, List.take_of_length_le hk]
end Lnk
set_option maxHeartbeats 4000000 in
theorem rRun_v_ {w : World} {a : Air} {A1 A2 : Option Addr} {c1 c2 : Nat} (f1 : Msgs w (.slice A1 a.ms.length c1) a.ms) (f2 : Prs w (.slice A2 a.cs.length c2) a.cs) {l : List Ev} {A3 : Option Addr} {c3 : Nat} (f3 : Evs w (.slice A3 l.length c3) l) (hf : Few_ a) (hcl : a.cs.length + l.length ≤ 1000000) : Calls Try.prog 25 #[.agg #[.slice A1 a.ms.length c1, .slice A2 a.cs.length c2], .slice A3 l.length c3] w (RunV w (Lnk.run a l)) := by
  refine calls_start Try.func25 rfl rfl ?_
  intro az Hz
  rw [Try.ntmps25] at Hz
  refine wp_seq_k fun K1 hK1 => ?_
  -- ref.go:159
  refine wp_region_lit ?_
  refine LBox Hz rfl rfl rfl ?_
  clear Hz az; intro g2 w3 hg6 hl7 o4 B5 az Hz
  refine LAl (v := .agg #[.slice none (0) 0, .slice none (0) 0]) zeroAir Hz rfl rfl ?_
  clear Hz az; intro g8 w9 hg12 hl13 o10 B11 az Hz
  refine L (r_as Hz rfl) Hz rfl ?_
  clear Hz az; intro az Hz
  refine L (r_as Hz rfl) Hz rfl ?_
  clear Hz az; intro az Hz
  refine hK1 _ _ ?_
  refine wp_seq_k fun K14 hK14 => ?_
  refine wp_seq_k fun K15 hK15 => ?_
  -- ref.go:160
  refine wp_region_lit ?_
  have B16 := (Blk.k B5 o10)
  refine L (r_ldA Try.isAgg25 Try.sizeOf25 Hz rfl (Blk.ca B16) rfl) Hz rfl ?_
  clear Hz az; intro az Hz
  have O17 : Only NoF w w9 := (Only.trans' o4 o10)
  have h18 := (SliceOf.kp f1 O17 (fun _ _ h => h) (fun _ _ _ _ h => h))
  have h19 := (SliceOf.kp f2 O17 (fun _ _ h => h) (fun _ _ _ _ h => h))
  refine LCV (v := .bool (Lnk.right a)) Hz rfl rfl Try.call29 (rRight_v (show AirV _ _ a from ⟨_, _, rfl, h18, h19⟩)) rfl fun w20 o21 => ?_
  clear Hz az; intro az Hz
  refine L (r_not Hz rfl) Hz rfl ?_
  clear Hz az; intro az Hz
  refine hK15 _ _ ?_
  refine br Hz rfl (fun hc22 => ?_) (fun hc22 => ?_)
  · -- if0
    have q23 : Lnk.right a = false := (nt_t hc22)
    refine wp_seq_k fun K24 hK24 => ?_
    -- ref.go:161
    refine wp_region_lit ?_
    refine L (r_bd (v := .agg #[.slice none (0) 0, .slice none (0) 0]) build_Air0 Hz rfl) Hz rfl ?_
    clear Hz az; intro az Hz
    have B25 := (Blk.k B11 o21)
    refine LSt (cs' := [.slice none (0) 0, .slice none (0) 0]) Try.sizeOf25 Hz rfl rfl rfl rfl rfl ⟨rfl, rfl, trivial⟩ B25 rfl rfl fun w26 s27 B28 => ?_
    refine L (r_as Hz rfl) Hz rfl ?_
    clear Hz az; intro az Hz
    refine L (r_as Hz rfl) Hz rfl ?_
    clear Hz az; intro az Hz
    refine hK24 _ _ ?_
    refine wp_ret ?_
    show bodyPost _ _ _ .ret _ _
    refine ret_of (vs := [.agg #[.slice none (0) 0, .slice none (0) 0], .slice none (0) 0, .slice none (0) 0]) Hz Try.results25 ⟨⟨_, rfl, l_ca Try.isAgg25 Try.sizeOf25 (Blk.ca B28) rfl⟩, rfl, rfl, trivial⟩ ?_
    rw [Lnk.run_no hc22]
    have O29 : Only NoF w w26 := (o_sg (Only.trans' O17 o21) s27 (size_only o4) (oneF_ge hg12))
    exact ⟨none, 0, none, 0, none, 0, none, 0, rfl, SliceOf.nil_ _ _ _, SliceOf.nil_ _ _ _, SliceOf.nil_ _ _ _, SliceOf.nil_ _ _ _, O29⟩
  · -- else0
    have q30 : Lnk.right a = true := (nt_f hc22)
    refine wp_skip ?_
    refine hK14 _ _ ?_
    refine wp_seq_k fun K31 hK31 => ?_
    -- ref.go:163
    refine wp_region_lit ?_
    have B32 := (Blk.k B16 o21)
    refine L (r_ldA Try.isAgg25 Try.sizeOf25 Hz rfl (Blk.ca B32) rfl) Hz rfl ?_
    clear Hz az; intro az Hz
    have O33 : Only NoF w w20 := (Only.trans' O17 o21)
    have h34 := (SliceOf.kp f1 O33 (fun _ _ h => h) (fun _ _ _ _ h => h))
    have h35 := (SliceOf.kp f2 O33 (fun _ _ h => h) (fun _ _ _ _ h => h))
    refine LC Hz rfl rfl Try.call38 (rcopied_all (show AirV _ _ a from ⟨_, _, rfl, h34, h35⟩) hf) rfl ?_
    rintro e w45 ⟨A36, c38, A37, c39, rfl, r40, r41, k42, k43, o44⟩; refine ⟨_, rfl, ?_⟩
    clear Hz az; intro az Hz
    refine LAl (v := .agg #[.slice none (0) 0, .slice none (0) 0]) zeroAir Hz rfl rfl ?_
    clear Hz az; intro g46 w47 hg50 hl51 o48 B49 az Hz
    refine LSt (cs' := [.slice A36 (a.ms.length) c38, .slice A37 (a.cs.length) c39]) Try.sizeOf25 Hz rfl rfl rfl rfl rfl ⟨rfl, rfl, trivial⟩ B49 rfl rfl fun w52 s53 B54 => ?_
    refine hK31 _ _ ?_
    refine wp_seq_k fun K55 hK55 => ?_
    -- ref.go:164
    refine wp_region_lit ?_
    refine L (r_as Hz rfl) Hz rfl ?_
    clear Hz az; intro az Hz
    refine hK55 _ _ ?_
    refine wp_seq_k fun K56 hK56 => ?_
    -- ref.go:165
    refine wp_region_lit ?_
    refine L (r_as Hz rfl) Hz rfl ?_
    clear Hz az; intro az Hz
    refine hK56 _ _ ?_
    refine wp_seq_k fun K57 hK57 => ?_
    refine wp_seq_k fun K58 hK58 => ?_
    -- ref.go:166
    refine wp_region_lit ?_
    refine L (r_as Hz rfl) Hz rfl ?_
    clear Hz az; intro az Hz
    refine hK58 _ _ ?_
    refine wp_block ?_
    have hra := nt_f hc22
    have hb3 := Nat.le_trans (SliceOf.cap_ f3) (SliceOf.lens f3).2
    refine wp_loop_m (fun mz az W => ∃ k : Nat, ∃ N : Air, ∃ CM : List Msg, ∃ ES : List Int, ∃ N1 : Option Addr, ∃ n1 : Nat, ∃ N2 : Option Addr, ∃ n2 : Nat, ∃ C1 : Option Addr, ∃ cc : Nat, ∃ E1 : Option Addr, ∃ ce : Nat, mz = l.length - k ∧ Fr 116 [(1, .slice A3 (l.length) c3), (4, .pointer (some ((⟨g8, 0, none⟩ : Addr)))), (5, .slice none (0) 0), (6, .slice none (0) 0), (7, .pointer (some ((⟨g46, 0, none⟩ : Addr)))), (10, .int .i64 ((k : Int))), (8, .slice C1 (CM.length) cc), (9, .slice E1 (ES.length) ce)] az ∧ (k ≤ l.length) ∧ (Lnk.runs a (l.take k) = (N, CM, ES)) ∧ Only (oneF g46) w52 W ∧ Blk W g46 25 [.slice N1 (N.ms.length) n1, .slice N2 (N.cs.length) n2].toArray ∧ W.ownsRow w20.heap.size 27 3 (.slice N1 (N.ms).length n1) (N.ms).length (List.flatMap KMsg.cells N.ms) ∧ W.ownsRow w20.heap.size 60 2 (.slice N2 (N.cs).length n2) (N.cs).length (List.flatMap KPr.cells N.cs) ∧ W.ownsRow w52.heap.size 27 3 (.slice C1 (CM).length cc) (CM).length (List.flatMap KMsg.cells CM) ∧ W.ownsRow w52.heap.size 32 1 (.slice E1 (ES).length ce) (ES).length (List.flatMap KErr.cells ES) ∧ (∀ zq ∈ N.ms, KMsg.ok zq) ∧ (∀ zq ∈ N.cs, KPr.ok zq) ∧ (∀ zq ∈ CM, KMsg.ok zq) ∧ (∀ zq ∈ ES, KErr.ok zq)) ?_ ?_
    · -- start
      have r59 := (ow_only (ow_k r40 o48) s53 (fun k hk => lt_F (oneF_ge hg50) (Nat.le_refl _) k (ownF_lt r40 k hk)))
      have r60 := (ow_only (ow_k r41 o48) s53 (fun k hk => lt_F (oneF_ge hg50) (Nat.le_refl _) k (ownF_lt r41 k hk)))
      exact ⟨_, 0, a, [], [], A36, c38, A37, c39, none, 0, none, 0, rfl, Hz.cut ⟨rfl, rfl, rfl, rfl, rfl, rfl, rfl, rfl, trivial⟩, Nat.zero_le _, rfl, (Only.refl (oneF g46) w52), B54, (ow_low r59 (Nat.le_refl _)), (ow_low r60 (Nat.le_refl _)), (World.ownsRow_nil _ _ _ _), (World.ownsRow_nil _ _ _ _), k42, k43, (fun x hx => by cases hx), (fun x hx => by cases hx)⟩
    clear Hz az
    rintro mz az w61 ⟨k, N, CM, ES, N1, n1, N2, n2, C1, cc, E1, ce, hm63, Hz, hk, hI, o62, B64, rN1, rN2, rC, rE, okN1, okN2, okC, okE⟩
    obtain ⟨hrN, hcN, hlC, hlE⟩ := Lnk.run_facts hra hI hk
    have hfN : Few_ N := Lnk.right_few_ hrN (by omega)
    refine wp_seq_k fun K65 hK65 => ?_
    refine wp_seq_k fun K66 hK66 => ?_
    -- ref.go:166
    refine wp_region_lit ?_
    refine L (r_mv Hz rfl) Hz rfl ?_
    clear Hz az; intro az Hz
    refine L (r_mv Hz rfl) Hz rfl ?_
    clear Hz az; intro az Hz
    refine L (r_lenL Try.underlying28 Hz rfl) Hz rfl ?_
    clear Hz az; intro az Hz
    refine L (r_ltI Hz rfl rfl) Hz rfl ?_
    clear Hz az; intro az Hz
    refine hK66 _ _ ?_
    refine br Hz rfl (fun hc67 => ?_) (fun hc67 => ?_)
    · -- if1
      have p68 := of_decide_eq_true hc67
      refine wp_skip ?_
      refine hK65 _ _ ?_
      refine wp_seq_k fun K69 hK69 => ?_
      refine wp_block ?_
      refine wp_seq_k fun K70 hK70 => ?_
      -- ref.go:167
      refine wp_region_lit ?_
      refine L (r_mv Hz rfl) Hz rfl ?_
      clear Hz az; intro az Hz
      refine L (r_mv Hz rfl) Hz rfl ?_
      clear Hz az; intro az Hz
      have hk71 : k < (l).length := by omega
      have O77 : Only NoF w w45 := (Only.trans' O33 o44)
      have O78 : Only NoF w w61 := (o_sg (o_sg (Only.trans' (Only.trans' O33 o44) o48) s53 (size_only O77) (oneF_ge hg50)) o62 (size_only O77) (oneF_ge hg50))
      have h79 := (SliceOf.kp f3 O78 (fun _ _ h => h) (fun _ _ _ _ h => h))
      obtain ⟨m72, hm73, ok74, hA75⟩ := Row.el KEv h79 hk71
      have E76 : ∀ W, Only NoF w61 W → CA W (eA A3 4 (k)) [.int .i64 (m72.k), .int .i64 (m72.a), .int .i64 (m72.b), strV (m72.t)] := Row.ce KEv h79 hm73 rfl
      refine L (r_ia (k := k) (size := 4) Try.underlying28 Try.sizeOf48 Hz rfl rfl rfl hk71 hA75) Hz rfl ?_
      clear Hz az; intro az Hz
      refine L (r_ldA Try.isAgg48 Try.sizeOf48 Hz rfl (E76 _ (Only.refl NoF w61)) rfl) Hz rfl ?_
      clear Hz az; intro az Hz
      refine LAl (v := .agg #[.int .i64 (0), .int .i64 (0), .int .i64 (0), strV ([])]) zeroEv Hz rfl rfl ?_
      clear Hz az; intro g80 w81 hg84 hl85 o82 B83 az Hz
      refine LSt (cs' := [.int .i64 (m72.k), .int .i64 (m72.a), .int .i64 (m72.b), strV (m72.t)]) Try.sizeOf48 Hz rfl rfl rfl rfl rfl ⟨rfl, rfl, rfl, rfl, trivial⟩ B83 rfl rfl fun w86 s87 B88 => ?_
      refine hK70 _ _ ?_
      refine wp_seq_k fun K89 hK89 => ?_
      -- ref.go:168
      refine wp_region_lit ?_
      refine L (r_bd (v := .agg #[.slice none (0) 0, .slice none (0) 0]) build_Air0 Hz rfl) Hz rfl ?_
      clear Hz az; intro az Hz
      refine LAl (v := .agg #[.slice none (0) 0, .slice none (0) 0]) zeroAir Hz rfl rfl ?_
      clear Hz az; intro g90 w91 hg94 hl95 o92 B93 az Hz
      refine LSt (cs' := [.slice none (0) 0, .slice none (0) 0]) Try.sizeOf25 Hz rfl rfl rfl rfl rfl ⟨rfl, rfl, trivial⟩ B93 rfl rfl fun w96 s97 B98 => ?_
      refine hK89 _ _ ?_
      refine wp_seq_k fun K99 hK99 => ?_
      -- ref.go:169
      refine wp_region_lit ?_
      refine L (r_bd (v := .agg #[.int .i64 (0), .int .i64 (0), strV ([])]) build_Msg0 Hz rfl) Hz rfl ?_
      clear Hz az; intro az Hz
      refine LAl (v := .agg #[.int .i64 (0), .int .i64 (0), strV ([])]) zeroMsg Hz rfl rfl ?_
      clear Hz az; intro g100 w101 hg104 hl105 o102 B103 az Hz
      refine LSt (cs' := [.int .i64 (0), .int .i64 (0), strV ([])]) Try.sizeOf27 Hz rfl rfl rfl rfl rfl ⟨rfl, rfl, rfl, trivial⟩ B103 rfl rfl fun w106 s107 B108 => ?_
      refine hK99 _ _ ?_
      refine wp_seq_k fun K109 hK109 => ?_
      -- ref.go:170
      refine wp_region_lit ?_
      refine L (r_as Hz rfl) Hz rfl ?_
      clear Hz az; intro az Hz
      refine hK109 _ _ ?_
      have O111 := (Only.trans (Only.refl (fun _ => True) w91) s97 (fun _ _ => .inl trivial))
      have ne110 : g90 ≠ g100 := (ne_of hl95 (Nat.le_trans (size_only O111) hg104))
      have B112 := (Blk.st (Blk.k B98 o102) s107 ne110)
      refine wp_join (fun az W => ∃ ee : Int, ∃ NX : Air, ∃ MM : Msg, ∃ X1 : Option Addr, ∃ x1 : Nat, ∃ X2 : Option Addr, ∃ x2 : Nat, Fr 116 [(1, .slice A3 (l.length) c3), (4, .pointer (some ((⟨g8, 0, none⟩ : Addr)))), (5, .slice none (0) 0), (6, .slice none (0) 0), (7, .pointer (some ((⟨g46, 0, none⟩ : Addr)))), (8, .slice C1 (CM.length) cc), (9, .slice E1 (ES.length) ce), (10, .int .i64 ((k : Int))), (11, .pointer (some ((⟨g80, 0, none⟩ : Addr)))), (12, .pointer (some ((⟨g90, 0, none⟩ : Addr)))), (13, .pointer (some ((⟨g100, 0, none⟩ : Addr)))), (21, .int .i64 ((k : Int))), (22, .slice A3 (l.length) c3), (23, .int .i64 (((l.length : Nat) : Int))), (24, .bool (decide ((k : Int) < ((l.length : Nat) : Int)))), (27, .slice A3 (l.length) c3), (28, .int .i64 ((k : Int))), (29, .pointer (some (eA A3 4 (k)))), (30, .agg #[.int .i64 (m72.k), .int .i64 (m72.a), .int .i64 (m72.b), strV (m72.t)]), (31, .agg #[.slice none (0) 0, .slice none (0) 0]), (32, .agg #[.int .i64 (0), .int .i64 (0), strV ([])]), (14, .int .i64 (ee))] az ∧ (Lnk.DoI N m72 ee NX MM) ∧ (MsgOk MM) ∧ Only NoF w86 W ∧ Blk W g90 25 [.slice X1 (NX.ms.length) x1, .slice X2 (NX.cs.length) x2].toArray ∧ Blk W g100 27 [.int .i64 (MM.a), .int .i64 (MM.b), strV (MM.t)].toArray ∧ W.ownsRow w86.heap.size 27 3 (.slice X1 (NX.ms).length x1) (NX.ms).length (List.flatMap KMsg.cells NX.ms) ∧ W.ownsRow w86.heap.size 60 2 (.slice X2 (NX.cs).length x2) (NX.cs).length (List.flatMap KPr.cells NX.cs) ∧ (∀ zq ∈ NX.ms, KMsg.ok zq) ∧ (∀ zq ∈ NX.cs, KPr.ok zq)) ?_ ?_
      · -- to the join
        refine wp_seq_k fun K113 hK113 => ?_
        -- ref.go:171
        refine wp_region_lit ?_
        refine L (r_fa (m' := 0) Try.underlying48 rfl Try.sizeOf3 rfl Hz rfl rfl) Hz rfl ?_
        clear Hz az; intro az Hz
        have O115 := (Only.trans (Only.refl (fun _ => True) w81) s87 (fun _ _ => .inl trivial))
        have ne114 : g80 ≠ g90 := (ne_of hl85 (Nat.le_trans (size_only O115) hg94))
        have O117 := (Only.trans (Only.trans (Only.trans (Only.refl (fun _ => True) w81) s87 (fun _ _ => .inl trivial)) o92 (fun _ _ => .inl trivial)) s97 (fun _ _ => .inl trivial))
        have ne116 : g80 ≠ g100 := (ne_of hl85 (Nat.le_trans (size_only O117) hg104))
        have B118 := (Blk.st (Blk.k (Blk.st (Blk.k B88 o92) s97 ne114) o102) s107 ne116)
        refine L (r_ld Try.isAgg3 Hz rfl ((Blk.ca B118) 0 _ rfl)) Hz rfl ?_
        clear Hz az; intro az Hz
        refine hK113 _ _ ?_
        refine wp_block ?_
        refine wp_seq_k fun K119 hK119 => ?_
        -- ref.go:172
        refine wp_region_lit ?_
        refine L (r_eqI Hz rfl rfl) Hz rfl ?_
        clear Hz az; intro az Hz
        refine L (r_as Hz rfl) Hz rfl ?_
        clear Hz az; intro az Hz
        refine hK119 _ _ ?_
        refine br Hz rfl (fun hc120 => ?_) (fun hc120 => ?_)
        · -- if2
          have p121 := of_decide_eq_true hc120
          -- ref.go:173
          refine wp_region_lit ?_
          have O123 := (Only.trans (Only.trans (Only.refl (fun _ => True) w47) s53 (fun _ _ => .inl trivial)) o62 (fun _ _ => .inl trivial))
          have ne122 : g46 ≠ g80 := (ne_of hl51 (Nat.le_trans (size_only O123) hg84))
          have O125 := (Only.trans (Only.trans (Only.trans (Only.trans (Only.refl (fun _ => True) w47) s53 (fun _ _ => .inl trivial)) o62 (fun _ _ => .inl trivial)) o82 (fun _ _ => .inl trivial)) s87 (fun _ _ => .inl trivial))
          have ne124 : g46 ≠ g90 := (ne_of hl51 (Nat.le_trans (size_only O125) hg94))
          have O127 := (Only.trans (Only.trans (Only.trans (Only.trans (Only.trans (Only.trans (Only.refl (fun _ => True) w47) s53 (fun _ _ => .inl trivial)) o62 (fun _ _ => .inl trivial)) o82 (fun _ _ => .inl trivial)) s87 (fun _ _ => .inl trivial)) o92 (fun _ _ => .inl trivial)) s97 (fun _ _ => .inl trivial))
          have ne126 : g46 ≠ g100 := (ne_of hl51 (Nat.le_trans (size_only O127) hg104))
          have B128 := (Blk.st (Blk.k (Blk.st (Blk.k (Blk.st (Blk.k B64 o82) s87 ne122) o92) s97 ne124) o102) s107 ne126)
          refine L (r_ldA Try.isAgg25 Try.sizeOf25 Hz rfl (Blk.ca B128) rfl) Hz rfl ?_
          clear Hz az; intro az Hz
          refine L (r_fa (m' := 1) Try.underlying48 rfl Try.sizeOf3 rfl Hz rfl rfl) Hz rfl ?_
          clear Hz az; intro az Hz
          refine L (r_ld Try.isAgg3 Hz rfl ((Blk.ca B118) 1 _ rfl)) Hz rfl ?_
          clear Hz az; intro az Hz
          refine L (r_fa (m' := 2) Try.underlying48 rfl Try.sizeOf3 rfl Hz rfl rfl) Hz rfl ?_
          clear Hz az; intro az Hz
          refine L (r_ld Try.isAgg3 Hz rfl ((Blk.ca B118) 2 _ rfl)) Hz rfl ?_
          clear Hz az; intro az Hz
          refine L (r_fa (m' := 3) Try.underlying48 rfl Try.sizeOf9 rfl Hz rfl rfl) Hz rfl ?_
          clear Hz az; intro az Hz
          refine L (r_ld Try.isAgg9 Hz rfl ((Blk.ca B118) 3 _ rfl)) Hz rfl ?_
          clear Hz az; intro az Hz
          refine L (r_bd (v := .agg #[.int .i64 (m72.a), .int .i64 (m72.b), strV (m72.t)]) (build_Msg _ _ _) Hz rfl) Hz rfl ?_
          clear Hz az; intro az Hz
          have h129 := Row.own KMsg rN1 okN1
          have h130 := Row.own KPr rN2 okN2
          have O131 : Only NoF w61 w86 := (o_sg o82 s87 (Nat.le_refl _) (oneF_ge hg84))
          have O132 : Only NoF w61 w96 := (o_sg (Only.trans' O131 o92) s97 (size_only O131) (oneF_ge hg94))
          have O133 : Only NoF w61 w106 := (o_sg (Only.trans' (o_sg (Only.trans' (o_sg o82 s87 (Nat.le_refl _) (oneF_ge hg84)) o92) s97 (size_only O131) (oneF_ge hg94)) o102) s107 (size_only O132) (oneF_ge hg104))
          have h134 := (SliceOf.kp h129 O133 (fun _ _ h => h) (fun _ _ _ _ h => h))
          have h135 := SliceOf.pl h134
          have h136 := (SliceOf.kp h130 O133 (fun _ _ h => h) (fun _ _ _ _ h => h))
          have h137 := SliceOf.pl h136
          refine LC Hz rfl rfl Try.call12 (rSend_v (show AirV _ _ N from ⟨_, _, rfl, h135, h137⟩) hfN (m := (⟨m72.a, m72.b, m72.t⟩ : Msg)) ⟨(ok74).2.1, (ok74).2.2.1, (ok74).2.2.2⟩) rfl ?_
          rintro e w147 ⟨A138, c140, A139, c141, rfl, r142, r143, k144, k145, o146⟩; refine ⟨_, rfl, ?_⟩
          clear Hz az; intro az Hz
          refine L (r_mv Hz rfl) Hz rfl ?_
          clear Hz az; intro az Hz
          refine L (r_ex Hz rfl rfl) Hz rfl ?_
          clear Hz az; intro az Hz
          refine L (r_ex Hz rfl rfl) Hz rfl ?_
          clear Hz az; intro az Hz
          have B148 := (Blk.k B112 o146)
          refine LSt (cs' := [.slice A138 ((Lnk.send N (⟨m72.a, m72.b, m72.t⟩ : Msg)).1.ms.length) c140, .slice A139 ((Lnk.send N (⟨m72.a, m72.b, m72.t⟩ : Msg)).1.cs.length) c141]) Try.sizeOf25 Hz rfl rfl rfl rfl rfl ⟨rfl, rfl, trivial⟩ B148 rfl rfl fun w149 s150 B151 => ?_
          refine L (r_as Hz rfl) Hz rfl ?_
          clear Hz az; intro az Hz
          have O152 := (Only.trans (Only.trans (Only.trans (Only.refl (fun _ => True) w91) s97 (fun _ _ => .inl trivial)) o102 (fun _ _ => .inl trivial)) s107 (fun _ _ => .inl trivial))
          have r153 := (ow_only r142 s150 (fun k hk => ge_F (oneF_lt hl95) (size_only O152) k (ownF_ge r142 k hk)))
          have O154 : Only NoF w86 w96 := (o_sg o92 s97 (Nat.le_refl _) (oneF_ge hg94))
          have O155 : Only NoF w86 w106 := (o_sg (Only.trans' (o_sg o92 s97 (Nat.le_refl _) (oneF_ge hg94)) o102) s107 (size_only O154) (oneF_ge hg104))
          have r156 := (ow_only r143 s150 (fun k hk => ge_F (oneF_lt hl95) (size_only O152) k (ownF_ge r143 k hk)))
          have O157 : Only NoF w86 w149 := (o_sg (Only.trans' O155 o146) s150 (Nat.le_refl _) (oneF_ge hg94))
          have ne158 : g100 ≠ g90 := (ne_of hl95 (Nat.le_trans (size_only O111) hg104)).symm
          have B159 := (Blk.st (Blk.k B108 o146) s150 ne158)
          exact ⟨(Lnk.send N (⟨m72.a, m72.b, m72.t⟩ : Msg)).2, _, Lnk.noM, A138, c140, A139, c141, Hz.cut ⟨rfl, rfl, rfl, rfl, rfl, rfl, rfl, rfl, rfl, rfl, rfl, rfl, rfl, rfl, rfl, rfl, rfl, rfl, rfl, rfl, rfl, rfl, trivial⟩, (Lnk.do_k0 (of_decide_eq_true hc120)), (by unfold MsgOk Lnk.noM I64 maxLen; simp), O157, B151, B159, (ow_low r153 (size_only O155)), (ow_low r156 (size_only O155)), k144, k145⟩
        · -- else2
          have p160 := of_decide_eq_false hc120
          refine wp_seq_k fun K161 hK161 => ?_
          -- ref.go:174
          refine wp_region_lit ?_
          refine L (r_eqI Hz rfl rfl) Hz rfl ?_
          clear Hz az; intro az Hz
          refine L (r_as Hz rfl) Hz rfl ?_
          clear Hz az; intro az Hz
          refine hK161 _ _ ?_
          refine br Hz rfl (fun hc162 => ?_) (fun hc162 => ?_)
          · -- if3
            have p163 := of_decide_eq_true hc162
            -- ref.go:175
            refine wp_region_lit ?_
            have O165 := (Only.trans (Only.trans (Only.refl (fun _ => True) w47) s53 (fun _ _ => .inl trivial)) o62 (fun _ _ => .inl trivial))
            have ne164 : g46 ≠ g80 := (ne_of hl51 (Nat.le_trans (size_only O165) hg84))
            have O167 := (Only.trans (Only.trans (Only.trans (Only.trans (Only.refl (fun _ => True) w47) s53 (fun _ _ => .inl trivial)) o62 (fun _ _ => .inl trivial)) o82 (fun _ _ => .inl trivial)) s87 (fun _ _ => .inl trivial))
            have ne166 : g46 ≠ g90 := (ne_of hl51 (Nat.le_trans (size_only O167) hg94))
            have O169 := (Only.trans (Only.trans (Only.trans (Only.trans (Only.trans (Only.trans (Only.refl (fun _ => True) w47) s53 (fun _ _ => .inl trivial)) o62 (fun _ _ => .inl trivial)) o82 (fun _ _ => .inl trivial)) s87 (fun _ _ => .inl trivial)) o92 (fun _ _ => .inl trivial)) s97 (fun _ _ => .inl trivial))
            have ne168 : g46 ≠ g100 := (ne_of hl51 (Nat.le_trans (size_only O169) hg104))
            have B170 := (Blk.st (Blk.k (Blk.st (Blk.k (Blk.st (Blk.k B64 o82) s87 ne164) o92) s97 ne166) o102) s107 ne168)
            refine L (r_ldA Try.isAgg25 Try.sizeOf25 Hz rfl (Blk.ca B170) rfl) Hz rfl ?_
            clear Hz az; intro az Hz
            refine L (r_fa (m' := 1) Try.underlying48 rfl Try.sizeOf3 rfl Hz rfl rfl) Hz rfl ?_
            clear Hz az; intro az Hz
            refine L (r_ld Try.isAgg3 Hz rfl ((Blk.ca B118) 1 _ rfl)) Hz rfl ?_
            clear Hz az; intro az Hz
            have h171 := Row.own KMsg rN1 okN1
            have h172 := Row.own KPr rN2 okN2
            have O173 : Only NoF w61 w86 := (o_sg o82 s87 (Nat.le_refl _) (oneF_ge hg84))
            have O174 : Only NoF w61 w96 := (o_sg (Only.trans' O173 o92) s97 (size_only O173) (oneF_ge hg94))
            have O175 : Only NoF w61 w106 := (o_sg (Only.trans' (o_sg (Only.trans' (o_sg o82 s87 (Nat.le_refl _) (oneF_ge hg84)) o92) s97 (size_only O173) (oneF_ge hg94)) o102) s107 (size_only O174) (oneF_ge hg104))
            have h176 := (SliceOf.kp h171 O175 (fun _ _ h => h) (fun _ _ _ _ h => h))
            have h177 := SliceOf.pl h176
            have h178 := (SliceOf.kp h172 O175 (fun _ _ h => h) (fun _ _ _ _ h => h))
            have h179 := SliceOf.pl h178
            refine LC Hz rfl rfl Try.call23 (rDeliver_v (show AirV _ _ N from ⟨_, _, rfl, h177, h179⟩) hfN (m72.a)) rfl ?_
            rintro e w189 ⟨A180, c182, A181, c183, rfl, r184, r185, k186, k187, o188⟩; refine ⟨_, rfl, ?_⟩
            clear Hz az; intro az Hz
            refine L (r_mv Hz rfl) Hz rfl ?_
            clear Hz az; intro az Hz
            refine L (r_ex Hz rfl rfl) Hz rfl ?_
            clear Hz az; intro az Hz
            refine L (r_ex Hz rfl rfl) Hz rfl ?_
            clear Hz az; intro az Hz
            refine L (r_ex Hz rfl rfl) Hz rfl ?_
            clear Hz az; intro az Hz
            have B190 := (Blk.k B112 o188)
            refine LSt (cs' := [.slice A180 ((Lnk.deliver N m72.a).1.ms.length) c182, .slice A181 ((Lnk.deliver N m72.a).1.cs.length) c183]) Try.sizeOf25 Hz rfl rfl rfl rfl rfl ⟨rfl, rfl, trivial⟩ B190 rfl rfl fun w191 s192 B193 => ?_
            have ne194 : g100 ≠ g90 := (ne_of hl95 (Nat.le_trans (size_only O111) hg104)).symm
            have B195 := (Blk.st (Blk.k B108 o188) s192 ne194)
            refine LSt (cs' := [.int .i64 ((Lnk.deliver N m72.a).2.1.a), .int .i64 ((Lnk.deliver N m72.a).2.1.b), strV ((Lnk.deliver N m72.a).2.1.t)]) Try.sizeOf27 Hz rfl rfl rfl rfl rfl ⟨rfl, rfl, rfl, trivial⟩ B195 rfl rfl fun w196 s197 B198 => ?_
            refine L (r_as Hz rfl) Hz rfl ?_
            clear Hz az; intro az Hz
            have O199 := (Only.trans (Only.trans (Only.trans (Only.refl (fun _ => True) w91) s97 (fun _ _ => .inl trivial)) o102 (fun _ _ => .inl trivial)) s107 (fun _ _ => .inl trivial))
            have O200 := (Only.trans (Only.refl (fun _ => True) w101) s107 (fun _ _ => .inl trivial))
            have r201 := (ow_only (ow_only r184 s192 (fun k hk => ge_F (oneF_lt hl95) (size_only O199) k (ownF_ge r184 k hk))) s197 (fun k hk => ge_F (oneF_lt hl105) (size_only O200) k (ownF_ge (ow_only r184 s192 (fun k hk => ge_F (oneF_lt hl95) (size_only O199) k (ownF_ge r184 k hk))) k hk)))
            have O202 : Only NoF w86 w96 := (o_sg o92 s97 (Nat.le_refl _) (oneF_ge hg94))
            have O203 : Only NoF w86 w106 := (o_sg (Only.trans' (o_sg o92 s97 (Nat.le_refl _) (oneF_ge hg94)) o102) s107 (size_only O202) (oneF_ge hg104))
            have r204 := (ow_only (ow_only r185 s192 (fun k hk => ge_F (oneF_lt hl95) (size_only O199) k (ownF_ge r185 k hk))) s197 (fun k hk => ge_F (oneF_lt hl105) (size_only O200) k (ownF_ge (ow_only r185 s192 (fun k hk => ge_F (oneF_lt hl95) (size_only O199) k (ownF_ge r185 k hk))) k hk)))
            have O205 : Only NoF w86 w196 := (o_sg (o_sg (Only.trans' O203 o188) s192 (Nat.le_refl _) (oneF_ge hg94)) s197 (size_only O202) (oneF_ge hg104))
            have B206 := (Blk.st B193 s197 ne110)
            exact ⟨(Lnk.deliver N m72.a).2.2, _, (Lnk.deliver N m72.a).2.1, A180, c182, A181, c183, Hz.cut ⟨rfl, rfl, rfl, rfl, rfl, rfl, rfl, rfl, rfl, rfl, rfl, rfl, rfl, rfl, rfl, rfl, rfl, rfl, rfl, rfl, rfl, rfl, trivial⟩, (Lnk.do_k1 (of_decide_eq_false hc120) (of_decide_eq_true hc162)), (Lnk.del_ok N okN1 _), O205, B206, B198, (ow_low r201 (size_only O203)), (ow_low r204 (size_only O203)), k186, k187⟩
          · -- else3
            have p207 := of_decide_eq_false hc162
            refine wp_seq_k fun K208 hK208 => ?_
            -- ref.go:176
            refine wp_region_lit ?_
            refine L (r_eqI Hz rfl rfl) Hz rfl ?_
            clear Hz az; intro az Hz
            refine L (r_as Hz rfl) Hz rfl ?_
            clear Hz az; intro az Hz
            refine hK208 _ _ ?_
            refine br Hz rfl (fun hc209 => ?_) (fun hc209 => ?_)
            · -- if4
              have p210 := of_decide_eq_true hc209
              -- ref.go:177
              refine wp_region_lit ?_
              have O212 := (Only.trans (Only.trans (Only.refl (fun _ => True) w47) s53 (fun _ _ => .inl trivial)) o62 (fun _ _ => .inl trivial))
              have ne211 : g46 ≠ g80 := (ne_of hl51 (Nat.le_trans (size_only O212) hg84))
              have O214 := (Only.trans (Only.trans (Only.trans (Only.trans (Only.refl (fun _ => True) w47) s53 (fun _ _ => .inl trivial)) o62 (fun _ _ => .inl trivial)) o82 (fun _ _ => .inl trivial)) s87 (fun _ _ => .inl trivial))
              have ne213 : g46 ≠ g90 := (ne_of hl51 (Nat.le_trans (size_only O214) hg94))
              have O216 := (Only.trans (Only.trans (Only.trans (Only.trans (Only.trans (Only.trans (Only.refl (fun _ => True) w47) s53 (fun _ _ => .inl trivial)) o62 (fun _ _ => .inl trivial)) o82 (fun _ _ => .inl trivial)) s87 (fun _ _ => .inl trivial)) o92 (fun _ _ => .inl trivial)) s97 (fun _ _ => .inl trivial))
              have ne215 : g46 ≠ g100 := (ne_of hl51 (Nat.le_trans (size_only O216) hg104))
              have B217 := (Blk.st (Blk.k (Blk.st (Blk.k (Blk.st (Blk.k B64 o82) s87 ne211) o92) s97 ne213) o102) s107 ne215)
              refine L (r_ldA Try.isAgg25 Try.sizeOf25 Hz rfl (Blk.ca B217) rfl) Hz rfl ?_
              clear Hz az; intro az Hz
              refine L (r_fa (m' := 1) Try.underlying48 rfl Try.sizeOf3 rfl Hz rfl rfl) Hz rfl ?_
              clear Hz az; intro az Hz
              refine L (r_ld Try.isAgg3 Hz rfl ((Blk.ca B118) 1 _ rfl)) Hz rfl ?_
              clear Hz az; intro az Hz
              have h218 := Row.own KMsg rN1 okN1
              have h219 := Row.own KPr rN2 okN2
              have O220 : Only NoF w61 w86 := (o_sg o82 s87 (Nat.le_refl _) (oneF_ge hg84))
              have O221 : Only NoF w61 w96 := (o_sg (Only.trans' O220 o92) s97 (size_only O220) (oneF_ge hg94))
              have O222 : Only NoF w61 w106 := (o_sg (Only.trans' (o_sg (Only.trans' (o_sg o82 s87 (Nat.le_refl _) (oneF_ge hg84)) o92) s97 (size_only O220) (oneF_ge hg94)) o102) s107 (size_only O221) (oneF_ge hg104))
              have h223 := (SliceOf.kp h218 O222 (fun _ _ h => h) (fun _ _ _ _ h => h))
              have h224 := SliceOf.pl h223
              have h225 := (SliceOf.kp h219 O222 (fun _ _ h => h) (fun _ _ _ _ h => h))
              have h226 := SliceOf.pl h225
              refine LC Hz rfl rfl Try.call17 (rLose_v (show AirV _ _ N from ⟨_, _, rfl, h224, h226⟩) hfN (m72.a)) rfl ?_
              rintro e w236 ⟨A227, c229, A228, c230, rfl, r231, r232, k233, k234, o235⟩; refine ⟨_, rfl, ?_⟩
              clear Hz az; intro az Hz
              refine L (r_mv Hz rfl) Hz rfl ?_
              clear Hz az; intro az Hz
              refine L (r_ex Hz rfl rfl) Hz rfl ?_
              clear Hz az; intro az Hz
              refine L (r_ex Hz rfl rfl) Hz rfl ?_
              clear Hz az; intro az Hz
              have B237 := (Blk.k B112 o235)
              refine LSt (cs' := [.slice A227 ((Lnk.lose N m72.a).1.ms.length) c229, .slice A228 ((Lnk.lose N m72.a).1.cs.length) c230]) Try.sizeOf25 Hz rfl rfl rfl rfl rfl ⟨rfl, rfl, trivial⟩ B237 rfl rfl fun w238 s239 B240 => ?_
              refine L (r_as Hz rfl) Hz rfl ?_
              clear Hz az; intro az Hz
              have O241 := (Only.trans (Only.trans (Only.trans (Only.refl (fun _ => True) w91) s97 (fun _ _ => .inl trivial)) o102 (fun _ _ => .inl trivial)) s107 (fun _ _ => .inl trivial))
              have r242 := (ow_only r231 s239 (fun k hk => ge_F (oneF_lt hl95) (size_only O241) k (ownF_ge r231 k hk)))
              have O243 : Only NoF w86 w96 := (o_sg o92 s97 (Nat.le_refl _) (oneF_ge hg94))
              have O244 : Only NoF w86 w106 := (o_sg (Only.trans' (o_sg o92 s97 (Nat.le_refl _) (oneF_ge hg94)) o102) s107 (size_only O243) (oneF_ge hg104))
              have r245 := (ow_only r232 s239 (fun k hk => ge_F (oneF_lt hl95) (size_only O241) k (ownF_ge r232 k hk)))
              have O246 : Only NoF w86 w238 := (o_sg (Only.trans' O244 o235) s239 (Nat.le_refl _) (oneF_ge hg94))
              have ne247 : g100 ≠ g90 := (ne_of hl95 (Nat.le_trans (size_only O111) hg104)).symm
              have B248 := (Blk.st (Blk.k B108 o235) s239 ne247)
              exact ⟨(Lnk.lose N m72.a).2, _, Lnk.noM, A227, c229, A228, c230, Hz.cut ⟨rfl, rfl, rfl, rfl, rfl, rfl, rfl, rfl, rfl, rfl, rfl, rfl, rfl, rfl, rfl, rfl, rfl, rfl, rfl, rfl, rfl, rfl, trivial⟩, (Lnk.do_k2 (of_decide_eq_false hc120) (of_decide_eq_false hc162) (of_decide_eq_true hc209)), (by unfold MsgOk Lnk.noM I64 maxLen; simp), O246, B240, B248, (ow_low r242 (size_only O244)), (ow_low r245 (size_only O244)), k233, k234⟩
            · -- else4
              have p249 := of_decide_eq_false hc209
              refine wp_seq_k fun K250 hK250 => ?_
              -- ref.go:178
              refine wp_region_lit ?_
              refine L (r_eqI Hz rfl rfl) Hz rfl ?_
              clear Hz az; intro az Hz
              refine L (r_as Hz rfl) Hz rfl ?_
              clear Hz az; intro az Hz
              refine hK250 _ _ ?_
              refine br Hz rfl (fun hc251 => ?_) (fun hc251 => ?_)
              · -- if5
                have p252 := of_decide_eq_true hc251
                -- ref.go:179
                refine wp_region_lit ?_
                have O254 := (Only.trans (Only.trans (Only.refl (fun _ => True) w47) s53 (fun _ _ => .inl trivial)) o62 (fun _ _ => .inl trivial))
                have ne253 : g46 ≠ g80 := (ne_of hl51 (Nat.le_trans (size_only O254) hg84))
                have O256 := (Only.trans (Only.trans (Only.trans (Only.trans (Only.refl (fun _ => True) w47) s53 (fun _ _ => .inl trivial)) o62 (fun _ _ => .inl trivial)) o82 (fun _ _ => .inl trivial)) s87 (fun _ _ => .inl trivial))
                have ne255 : g46 ≠ g90 := (ne_of hl51 (Nat.le_trans (size_only O256) hg94))
                have O258 := (Only.trans (Only.trans (Only.trans (Only.trans (Only.trans (Only.trans (Only.refl (fun _ => True) w47) s53 (fun _ _ => .inl trivial)) o62 (fun _ _ => .inl trivial)) o82 (fun _ _ => .inl trivial)) s87 (fun _ _ => .inl trivial)) o92 (fun _ _ => .inl trivial)) s97 (fun _ _ => .inl trivial))
                have ne257 : g46 ≠ g100 := (ne_of hl51 (Nat.le_trans (size_only O258) hg104))
                have B259 := (Blk.st (Blk.k (Blk.st (Blk.k (Blk.st (Blk.k B64 o82) s87 ne253) o92) s97 ne255) o102) s107 ne257)
                refine L (r_ldA Try.isAgg25 Try.sizeOf25 Hz rfl (Blk.ca B259) rfl) Hz rfl ?_
                clear Hz az; intro az Hz
                refine L (r_fa (m' := 1) Try.underlying48 rfl Try.sizeOf3 rfl Hz rfl rfl) Hz rfl ?_
                clear Hz az; intro az Hz
                refine L (r_ld Try.isAgg3 Hz rfl ((Blk.ca B118) 1 _ rfl)) Hz rfl ?_
                clear Hz az; intro az Hz
                have h260 := Row.own KMsg rN1 okN1
                have h261 := Row.own KPr rN2 okN2
                have O262 : Only NoF w61 w86 := (o_sg o82 s87 (Nat.le_refl _) (oneF_ge hg84))
                have O263 : Only NoF w61 w96 := (o_sg (Only.trans' O262 o92) s97 (size_only O262) (oneF_ge hg94))
                have O264 : Only NoF w61 w106 := (o_sg (Only.trans' (o_sg (Only.trans' (o_sg o82 s87 (Nat.le_refl _) (oneF_ge hg84)) o92) s97 (size_only O262) (oneF_ge hg94)) o102) s107 (size_only O263) (oneF_ge hg104))
                have h265 := (SliceOf.kp h260 O264 (fun _ _ h => h) (fun _ _ _ _ h => h))
                have h266 := SliceOf.pl h265
                have h267 := (SliceOf.kp h261 O264 (fun _ _ h => h) (fun _ _ _ _ h => h))
                have h268 := SliceOf.pl h267
                refine LC Hz rfl rfl Try.call15 (rDouble_v (show AirV _ _ N from ⟨_, _, rfl, h266, h268⟩) hfN (m72.a)) rfl ?_
                rintro e w278 ⟨A269, c271, A270, c272, rfl, r273, r274, k275, k276, o277⟩; refine ⟨_, rfl, ?_⟩
                clear Hz az; intro az Hz
                refine L (r_mv Hz rfl) Hz rfl ?_
                clear Hz az; intro az Hz
                refine L (r_ex Hz rfl rfl) Hz rfl ?_
                clear Hz az; intro az Hz
                refine L (r_ex Hz rfl rfl) Hz rfl ?_
                clear Hz az; intro az Hz
                have B279 := (Blk.k B112 o277)
                refine LSt (cs' := [.slice A269 ((Lnk.double N m72.a).1.ms.length) c271, .slice A270 ((Lnk.double N m72.a).1.cs.length) c272]) Try.sizeOf25 Hz rfl rfl rfl rfl rfl ⟨rfl, rfl, trivial⟩ B279 rfl rfl fun w280 s281 B282 => ?_
                refine L (r_as Hz rfl) Hz rfl ?_
                clear Hz az; intro az Hz
                have O283 := (Only.trans (Only.trans (Only.trans (Only.refl (fun _ => True) w91) s97 (fun _ _ => .inl trivial)) o102 (fun _ _ => .inl trivial)) s107 (fun _ _ => .inl trivial))
                have r284 := (ow_only r273 s281 (fun k hk => ge_F (oneF_lt hl95) (size_only O283) k (ownF_ge r273 k hk)))
                have O285 : Only NoF w86 w96 := (o_sg o92 s97 (Nat.le_refl _) (oneF_ge hg94))
                have O286 : Only NoF w86 w106 := (o_sg (Only.trans' (o_sg o92 s97 (Nat.le_refl _) (oneF_ge hg94)) o102) s107 (size_only O285) (oneF_ge hg104))
                have r287 := (ow_only r274 s281 (fun k hk => ge_F (oneF_lt hl95) (size_only O283) k (ownF_ge r274 k hk)))
                have O288 : Only NoF w86 w280 := (o_sg (Only.trans' O286 o277) s281 (Nat.le_refl _) (oneF_ge hg94))
                have ne289 : g100 ≠ g90 := (ne_of hl95 (Nat.le_trans (size_only O111) hg104)).symm
                have B290 := (Blk.st (Blk.k B108 o277) s281 ne289)
                exact ⟨(Lnk.double N m72.a).2, _, Lnk.noM, A269, c271, A270, c272, Hz.cut ⟨rfl, rfl, rfl, rfl, rfl, rfl, rfl, rfl, rfl, rfl, rfl, rfl, rfl, rfl, rfl, rfl, rfl, rfl, rfl, rfl, rfl, rfl, trivial⟩, (Lnk.do_k3 (of_decide_eq_false hc120) (of_decide_eq_false hc162) (of_decide_eq_false hc209) (of_decide_eq_true hc251)), (by unfold MsgOk Lnk.noM I64 maxLen; simp), O288, B282, B290, (ow_low r284 (size_only O286)), (ow_low r287 (size_only O286)), k275, k276⟩
              · -- else5
                have p291 := of_decide_eq_false hc251
                refine wp_seq_k fun K292 hK292 => ?_
                -- ref.go:180
                refine wp_region_lit ?_
                refine L (r_eqI Hz rfl rfl) Hz rfl ?_
                clear Hz az; intro az Hz
                refine L (r_as Hz rfl) Hz rfl ?_
                clear Hz az; intro az Hz
                refine hK292 _ _ ?_
                refine br Hz rfl (fun hc293 => ?_) (fun hc293 => ?_)
                · -- if6
                  have p294 := of_decide_eq_true hc293
                  -- ref.go:181
                  refine wp_region_lit ?_
                  have O296 := (Only.trans (Only.trans (Only.refl (fun _ => True) w47) s53 (fun _ _ => .inl trivial)) o62 (fun _ _ => .inl trivial))
                  have ne295 : g46 ≠ g80 := (ne_of hl51 (Nat.le_trans (size_only O296) hg84))
                  have O298 := (Only.trans (Only.trans (Only.trans (Only.trans (Only.refl (fun _ => True) w47) s53 (fun _ _ => .inl trivial)) o62 (fun _ _ => .inl trivial)) o82 (fun _ _ => .inl trivial)) s87 (fun _ _ => .inl trivial))
                  have ne297 : g46 ≠ g90 := (ne_of hl51 (Nat.le_trans (size_only O298) hg94))
                  have O300 := (Only.trans (Only.trans (Only.trans (Only.trans (Only.trans (Only.trans (Only.refl (fun _ => True) w47) s53 (fun _ _ => .inl trivial)) o62 (fun _ _ => .inl trivial)) o82 (fun _ _ => .inl trivial)) s87 (fun _ _ => .inl trivial)) o92 (fun _ _ => .inl trivial)) s97 (fun _ _ => .inl trivial))
                  have ne299 : g46 ≠ g100 := (ne_of hl51 (Nat.le_trans (size_only O300) hg104))
                  have B301 := (Blk.st (Blk.k (Blk.st (Blk.k (Blk.st (Blk.k B64 o82) s87 ne295) o92) s97 ne297) o102) s107 ne299)
                  refine L (r_ldA Try.isAgg25 Try.sizeOf25 Hz rfl (Blk.ca B301) rfl) Hz rfl ?_
                  clear Hz az; intro az Hz
                  refine L (r_fa (m' := 1) Try.underlying48 rfl Try.sizeOf3 rfl Hz rfl rfl) Hz rfl ?_
                  clear Hz az; intro az Hz
                  refine L (r_ld Try.isAgg3 Hz rfl ((Blk.ca B118) 1 _ rfl)) Hz rfl ?_
                  clear Hz az; intro az Hz
                  refine L (r_fa (m' := 2) Try.underlying48 rfl Try.sizeOf3 rfl Hz rfl rfl) Hz rfl ?_
                  clear Hz az; intro az Hz
                  refine L (r_ld Try.isAgg3 Hz rfl ((Blk.ca B118) 2 _ rfl)) Hz rfl ?_
                  clear Hz az; intro az Hz
                  have h302 := Row.own KMsg rN1 okN1
                  have h303 := Row.own KPr rN2 okN2
                  have O304 : Only NoF w61 w86 := (o_sg o82 s87 (Nat.le_refl _) (oneF_ge hg84))
                  have O305 : Only NoF w61 w96 := (o_sg (Only.trans' O304 o92) s97 (size_only O304) (oneF_ge hg94))
                  have O306 : Only NoF w61 w106 := (o_sg (Only.trans' (o_sg (Only.trans' (o_sg o82 s87 (Nat.le_refl _) (oneF_ge hg84)) o92) s97 (size_only O304) (oneF_ge hg94)) o102) s107 (size_only O305) (oneF_ge hg104))
                  have h307 := (SliceOf.kp h302 O306 (fun _ _ h => h) (fun _ _ _ _ h => h))
                  have h308 := SliceOf.pl h307
                  have h309 := (SliceOf.kp h303 O306 (fun _ _ h => h) (fun _ _ _ _ h => h))
                  have h310 := SliceOf.pl h309
                  refine LC Hz rfl rfl Try.call19 (rCut_v (show AirV _ _ N from ⟨_, _, rfl, h308, h310⟩) hfN m72.a m72.b (ok74).2.1 (ok74).2.2.1) rfl ?_
                  rintro e w320 ⟨A311, c313, A312, c314, rfl, r315, r316, k317, k318, o319⟩; refine ⟨_, rfl, ?_⟩
                  clear Hz az; intro az Hz
                  refine L (r_mv Hz rfl) Hz rfl ?_
                  clear Hz az; intro az Hz
                  refine L (r_ex Hz rfl rfl) Hz rfl ?_
                  clear Hz az; intro az Hz
                  refine L (r_ex Hz rfl rfl) Hz rfl ?_
                  clear Hz az; intro az Hz
                  have B321 := (Blk.k B112 o319)
                  refine LSt (cs' := [.slice A311 ((Lnk.cut N m72.a m72.b).1.ms.length) c313, .slice A312 ((Lnk.cut N m72.a m72.b).1.cs.length) c314]) Try.sizeOf25 Hz rfl rfl rfl rfl rfl ⟨rfl, rfl, trivial⟩ B321 rfl rfl fun w322 s323 B324 => ?_
                  refine L (r_as Hz rfl) Hz rfl ?_
                  clear Hz az; intro az Hz
                  have O325 := (Only.trans (Only.trans (Only.trans (Only.refl (fun _ => True) w91) s97 (fun _ _ => .inl trivial)) o102 (fun _ _ => .inl trivial)) s107 (fun _ _ => .inl trivial))
                  have r326 := (ow_only r315 s323 (fun k hk => ge_F (oneF_lt hl95) (size_only O325) k (ownF_ge r315 k hk)))
                  have O327 : Only NoF w86 w96 := (o_sg o92 s97 (Nat.le_refl _) (oneF_ge hg94))
                  have O328 : Only NoF w86 w106 := (o_sg (Only.trans' (o_sg o92 s97 (Nat.le_refl _) (oneF_ge hg94)) o102) s107 (size_only O327) (oneF_ge hg104))
                  have r329 := (ow_only r316 s323 (fun k hk => ge_F (oneF_lt hl95) (size_only O325) k (ownF_ge r316 k hk)))
                  have O330 : Only NoF w86 w322 := (o_sg (Only.trans' O328 o319) s323 (Nat.le_refl _) (oneF_ge hg94))
                  have ne331 : g100 ≠ g90 := (ne_of hl95 (Nat.le_trans (size_only O111) hg104)).symm
                  have B332 := (Blk.st (Blk.k B108 o319) s323 ne331)
                  exact ⟨(Lnk.cut N m72.a m72.b).2, _, Lnk.noM, A311, c313, A312, c314, Hz.cut ⟨rfl, rfl, rfl, rfl, rfl, rfl, rfl, rfl, rfl, rfl, rfl, rfl, rfl, rfl, rfl, rfl, rfl, rfl, rfl, rfl, rfl, rfl, trivial⟩, (Lnk.do_k4 (of_decide_eq_false hc120) (of_decide_eq_false hc162) (of_decide_eq_false hc209) (of_decide_eq_false hc251) (of_decide_eq_true hc293)), (by unfold MsgOk Lnk.noM I64 maxLen; simp), O330, B324, B332, (ow_low r326 (size_only O328)), (ow_low r329 (size_only O328)), k317, k318⟩
                · -- else6
                  have p333 := of_decide_eq_false hc293
                  refine wp_seq_k fun K334 hK334 => ?_
                  -- ref.go:182
                  refine wp_region_lit ?_
                  refine L (r_eqI Hz rfl rfl) Hz rfl ?_
                  clear Hz az; intro az Hz
                  refine L (r_as Hz rfl) Hz rfl ?_
                  clear Hz az; intro az Hz
                  refine hK334 _ _ ?_
                  refine br Hz rfl (fun hc335 => ?_) (fun hc335 => ?_)
                  · -- if7
                    have p336 := of_decide_eq_true hc335
                    -- ref.go:183
                    refine wp_region_lit ?_
                    have O338 := (Only.trans (Only.trans (Only.refl (fun _ => True) w47) s53 (fun _ _ => .inl trivial)) o62 (fun _ _ => .inl trivial))
                    have ne337 : g46 ≠ g80 := (ne_of hl51 (Nat.le_trans (size_only O338) hg84))
                    have O340 := (Only.trans (Only.trans (Only.trans (Only.trans (Only.refl (fun _ => True) w47) s53 (fun _ _ => .inl trivial)) o62 (fun _ _ => .inl trivial)) o82 (fun _ _ => .inl trivial)) s87 (fun _ _ => .inl trivial))
                    have ne339 : g46 ≠ g90 := (ne_of hl51 (Nat.le_trans (size_only O340) hg94))
                    have O342 := (Only.trans (Only.trans (Only.trans (Only.trans (Only.trans (Only.trans (Only.refl (fun _ => True) w47) s53 (fun _ _ => .inl trivial)) o62 (fun _ _ => .inl trivial)) o82 (fun _ _ => .inl trivial)) s87 (fun _ _ => .inl trivial)) o92 (fun _ _ => .inl trivial)) s97 (fun _ _ => .inl trivial))
                    have ne341 : g46 ≠ g100 := (ne_of hl51 (Nat.le_trans (size_only O342) hg104))
                    have B343 := (Blk.st (Blk.k (Blk.st (Blk.k (Blk.st (Blk.k B64 o82) s87 ne337) o92) s97 ne339) o102) s107 ne341)
                    refine L (r_ldA Try.isAgg25 Try.sizeOf25 Hz rfl (Blk.ca B343) rfl) Hz rfl ?_
                    clear Hz az; intro az Hz
                    refine L (r_fa (m' := 1) Try.underlying48 rfl Try.sizeOf3 rfl Hz rfl rfl) Hz rfl ?_
                    clear Hz az; intro az Hz
                    refine L (r_ld Try.isAgg3 Hz rfl ((Blk.ca B118) 1 _ rfl)) Hz rfl ?_
                    clear Hz az; intro az Hz
                    refine L (r_fa (m' := 2) Try.underlying48 rfl Try.sizeOf3 rfl Hz rfl rfl) Hz rfl ?_
                    clear Hz az; intro az Hz
                    refine L (r_ld Try.isAgg3 Hz rfl ((Blk.ca B118) 2 _ rfl)) Hz rfl ?_
                    clear Hz az; intro az Hz
                    have h344 := Row.own KMsg rN1 okN1
                    have h345 := Row.own KPr rN2 okN2
                    have O346 : Only NoF w61 w86 := (o_sg o82 s87 (Nat.le_refl _) (oneF_ge hg84))
                    have O347 : Only NoF w61 w96 := (o_sg (Only.trans' O346 o92) s97 (size_only O346) (oneF_ge hg94))
                    have O348 : Only NoF w61 w106 := (o_sg (Only.trans' (o_sg (Only.trans' (o_sg o82 s87 (Nat.le_refl _) (oneF_ge hg84)) o92) s97 (size_only O346) (oneF_ge hg94)) o102) s107 (size_only O347) (oneF_ge hg104))
                    have h349 := (SliceOf.kp h344 O348 (fun _ _ h => h) (fun _ _ _ _ h => h))
                    have h350 := SliceOf.pl h349
                    have h351 := (SliceOf.kp h345 O348 (fun _ _ h => h) (fun _ _ _ _ h => h))
                    have h352 := SliceOf.pl h351
                    refine LC Hz rfl rfl Try.call21 (rHeal_v (show AirV _ _ N from ⟨_, _, rfl, h350, h352⟩) hfN m72.a m72.b) rfl ?_
                    rintro e w362 ⟨A353, c355, A354, c356, rfl, r357, r358, k359, k360, o361⟩; refine ⟨_, rfl, ?_⟩
                    clear Hz az; intro az Hz
                    refine L (r_mv Hz rfl) Hz rfl ?_
                    clear Hz az; intro az Hz
                    refine L (r_ex Hz rfl rfl) Hz rfl ?_
                    clear Hz az; intro az Hz
                    refine L (r_ex Hz rfl rfl) Hz rfl ?_
                    clear Hz az; intro az Hz
                    have B363 := (Blk.k B112 o361)
                    refine LSt (cs' := [.slice A353 ((Lnk.heal N m72.a m72.b).1.ms.length) c355, .slice A354 ((Lnk.heal N m72.a m72.b).1.cs.length) c356]) Try.sizeOf25 Hz rfl rfl rfl rfl rfl ⟨rfl, rfl, trivial⟩ B363 rfl rfl fun w364 s365 B366 => ?_
                    refine L (r_as Hz rfl) Hz rfl ?_
                    clear Hz az; intro az Hz
                    have O367 := (Only.trans (Only.trans (Only.trans (Only.refl (fun _ => True) w91) s97 (fun _ _ => .inl trivial)) o102 (fun _ _ => .inl trivial)) s107 (fun _ _ => .inl trivial))
                    have r368 := (ow_only r357 s365 (fun k hk => ge_F (oneF_lt hl95) (size_only O367) k (ownF_ge r357 k hk)))
                    have O369 : Only NoF w86 w96 := (o_sg o92 s97 (Nat.le_refl _) (oneF_ge hg94))
                    have O370 : Only NoF w86 w106 := (o_sg (Only.trans' (o_sg o92 s97 (Nat.le_refl _) (oneF_ge hg94)) o102) s107 (size_only O369) (oneF_ge hg104))
                    have r371 := (ow_only r358 s365 (fun k hk => ge_F (oneF_lt hl95) (size_only O367) k (ownF_ge r358 k hk)))
                    have O372 : Only NoF w86 w364 := (o_sg (Only.trans' O370 o361) s365 (Nat.le_refl _) (oneF_ge hg94))
                    have ne373 : g100 ≠ g90 := (ne_of hl95 (Nat.le_trans (size_only O111) hg104)).symm
                    have B374 := (Blk.st (Blk.k B108 o361) s365 ne373)
                    exact ⟨(Lnk.heal N m72.a m72.b).2, _, Lnk.noM, A353, c355, A354, c356, Hz.cut ⟨rfl, rfl, rfl, rfl, rfl, rfl, rfl, rfl, rfl, rfl, rfl, rfl, rfl, rfl, rfl, rfl, rfl, rfl, rfl, rfl, rfl, rfl, trivial⟩, (Lnk.do_k5 (of_decide_eq_false hc120) (of_decide_eq_false hc162) (of_decide_eq_false hc209) (of_decide_eq_false hc251) (of_decide_eq_false hc293) (of_decide_eq_true hc335)), (by unfold MsgOk Lnk.noM I64 maxLen; simp), O372, B366, B374, (ow_low r368 (size_only O370)), (ow_low r371 (size_only O370)), k359, k360⟩
                  · -- else7
                    have p375 := of_decide_eq_false hc335
                    refine wp_skip ?_
                    have O376 : Only NoF w86 w96 := (o_sg o92 s97 (Nat.le_refl _) (oneF_ge hg94))
                    have O377 : Only NoF w86 w106 := (o_sg (Only.trans' (o_sg o92 s97 (Nat.le_refl _) (oneF_ge hg94)) o102) s107 (size_only O376) (oneF_ge hg104))
                    exact ⟨1, _, Lnk.noM, none, 0, none, 0, Hz.cut ⟨rfl, rfl, rfl, rfl, rfl, rfl, rfl, rfl, rfl, rfl, rfl, rfl, rfl, rfl, rfl, rfl, rfl, rfl, rfl, rfl, rfl, rfl, trivial⟩, (Lnk.do_k6 (of_decide_eq_false hc120) (of_decide_eq_false hc162) (of_decide_eq_false hc209) (of_decide_eq_false hc251) (of_decide_eq_false hc293) (of_decide_eq_false hc335)), (by unfold MsgOk Lnk.noM I64 maxLen; simp), O377, B112, B108, (World.ownsRow_nil _ _ _ _), (World.ownsRow_nil _ _ _ _), (fun x hx => by cases hx), (fun x hx => by cases hx)⟩
      clear Hz az
      rintro az w378 ⟨ee, NX, MM, X1, x1, X2, x2, Hz, hdo, hMM, o379, B380, B381, rX1, rX2, okX1, okX2⟩
      have O382 : Only NoF w86 w96 := (o_sg o92 s97 (Nat.le_refl _) (oneF_ge hg94))
      have he64 : I64 ee := by rw [hdo.1]; exact do_I64 N m72
      refine wp_seq_k fun K383 hK383 => ?_
      refine wp_seq_k fun K384 hK384 => ?_
      -- ref.go:185
      refine wp_region_lit ?_
      refine L (r_mv Hz rfl) Hz rfl ?_
      clear Hz az; intro az Hz
      refine L (r_eqI Hz rfl rfl) Hz rfl ?_
      clear Hz az; intro az Hz
      refine hK384 _ _ ?_
      refine br Hz rfl (fun hc385 => ?_) (fun hc385 => ?_)
      · -- if8
        have p386 := of_decide_eq_true hc385
        refine wp_seq_k fun K387 hK387 => ?_
        -- ref.go:186
        refine wp_region_lit ?_
        refine L (r_ldA Try.isAgg25 Try.sizeOf25 Hz rfl (Blk.ca B380) rfl) Hz rfl ?_
        clear Hz az; intro az Hz
        have O389 := (Only.trans (Only.trans (Only.refl (fun _ => True) w47) s53 (fun _ _ => .inl trivial)) o62 (fun _ _ => .inl trivial))
        have ne388 : g46 ≠ g80 := (ne_of hl51 (Nat.le_trans (size_only O389) hg84))
        have B390 := (Blk.k (Blk.st (Blk.k B64 o82) s87 ne388) o379)
        refine LSt (cs' := [.slice X1 (NX.ms.length) x1, .slice X2 (NX.cs.length) x2]) Try.sizeOf25 Hz rfl rfl rfl rfl rfl ⟨rfl, rfl, trivial⟩ B390 rfl rfl fun w391 s392 B393 => ?_
        refine hK387 _ _ ?_
        refine wp_seq_k fun K394 hK394 => ?_
        -- ref.go:187
        refine wp_region_lit ?_
        refine L (r_fa (m' := 0) Try.underlying48 rfl Try.sizeOf3 rfl Hz rfl rfl) Hz rfl ?_
        clear Hz az; intro az Hz
        have ne395 : g80 ≠ g46 := (ne_of hl51 (Nat.le_trans (size_only O389) hg84)).symm
        have B396 := (Blk.st (Blk.k B88 o379) s392 ne395)
        refine L (r_ld Try.isAgg3 Hz rfl ((Blk.ca B396) 0 _ rfl)) Hz rfl ?_
        clear Hz az; intro az Hz
        refine L (r_eqI Hz rfl rfl) Hz rfl ?_
        clear Hz az; intro az Hz
        refine hK394 _ _ ?_
        refine br Hz rfl (fun hc397 => ?_) (fun hc397 => ?_)
        · -- if9
          have p398 := of_decide_eq_true hc397
          -- ref.go:188
          refine wp_region_lit ?_
          refine L (r_mv Hz rfl) Hz rfl ?_
          clear Hz az; intro az Hz
          have O400 := (Only.trans (Only.trans (Only.trans (Only.trans (Only.refl (fun _ => True) w47) s53 (fun _ _ => .inl trivial)) o62 (fun _ _ => .inl trivial)) o82 (fun _ _ => .inl trivial)) s87 (fun _ _ => .inl trivial))
          have ne399 : g100 ≠ g46 := (ne_of hl51 (Nat.le_trans (size_only O400) (Nat.le_trans (size_only O382) hg104))).symm
          have B401 := (Blk.st B381 s392 ne399)
          refine L (r_ldA Try.isAgg27 Try.sizeOf27 Hz rfl (Blk.ca B401) rfl) Hz rfl ?_
          clear Hz az; intro az Hz
          obtain ⟨A402, w403, hw, hA, r404, o405⟩ := Row.made (w := w391) KMsg (e := 27) ([MM] : List Msg) (by simp only [List.length_cons, List.length_nil]; unfold maxLen; omega)
          refine L (r_bs (z := .agg #[.int .i64 (0), .int .i64 (0), strV ([])]) (size := 3) (vs := [(0, .agg #[.int .i64 (MM.a), .int .i64 (MM.b), strV (MM.t)])]) (cs := List.flatMap KMsg.cells [MM]) Try.underlying22 Try.sizeOf27 zeroMsg rfl (Fr.evalps Hz rfl) (by kernel_rfl)) Hz rfl ?_
          rw [← hw, ← hA]; clear Hz az; intro az Hz
          clear hw hA
          have ok406 : ∀ zq ∈ ([MM] : List Msg), KMsg.ok zq := by intro zq hx; simp only [List.mem_cons, List.not_mem_nil, or_false] at hx; rcases hx with rfl <;> first | exact hMM
          have O407 := (Only.trans (Only.refl (fun _ => True) w47) s53 (fun _ _ => .inl trivial))
          have r408 := (ow_k (ow_only (ow_k (ow_only (ow_k rC o82) s87 (fun k hk => lt_F (oneF_ge hg84) (Nat.le_refl _) k (ownF_lt rC k hk))) o379) s392 (fun k hk => ge_F (oneF_lt hl51) (size_only O407) k (ownF_ge (ow_k (ow_only (ow_k rC o82) s87 (fun k hk => lt_F (oneF_ge hg84) (Nat.le_refl _) k (ownF_lt rC k hk))) o379) k hk))) o405)
          have h409 := Row.own KMsg r404 ok406
          have h410 := SliceOf.pl h409
          have hb418 : (List.length (CM) + List.length ([MM])) * 32 ≤ 140737488355328 := by first | omega | (simp; omega)
          have O419 := (Only.trans (Only.trans (Only.trans (Only.trans (Only.trans (Only.trans (Only.refl (fun _ => True) w52) o62 (fun _ _ => .inl trivial)) o82 (fun _ _ => .inl trivial)) s87 (fun _ _ => .inl trivial)) o379 (fun _ _ => .inl trivial)) s392 (fun _ _ => .inl trivial)) o405 (fun _ _ => .inl trivial))
          obtain ⟨A411, c412, w413, hr414, r415, o416, al417⟩ := Row.app (P := Try.prog) (l := CM) (l2 := [MM]) KMsg elemMsg r408 h410 hb418 (by unfold maxLen; omega) (size_only O419)
          refine L (r_app hr414 Hz rfl rfl) Hz rfl ?_
          clear Hz az; intro az Hz
          have ok420 : ∀ zq ∈ (CM ++ [MM]), KMsg.ok zq := (fun x hx => (List.mem_append.1 hx).elim (okC x) ((Row.oks KMsg h410) x))
          have h421 := Row.own KMsg r415 ok420
          refine L (r_as Hz rfl) Hz rfl ?_
          clear Hz az; intro az Hz
          refine hK383 _ _ ?_
          -- ref.go:191
          refine wp_region_lit ?_
          refine L (r_mv Hz rfl) Hz rfl ?_
          clear Hz az; intro az Hz
          refine L (r_mv Hz rfl) Hz rfl ?_
          clear Hz az; intro az Hz
          obtain ⟨A422, w423, hw, hA, r424, o425⟩ := Row.made (w := w413) KErr (e := 32) ([ee] : List Int) (by simp only [List.length_cons, List.length_nil]; unfold maxLen; omega)
          refine L (r_bs (z := .int .i64 (0)) (size := 1) (vs := [(0, .int .i64 (ee))]) (cs := List.flatMap KErr.cells [ee]) Try.underlying40 Try.sizeOf32 zeroErr rfl (Fr.evalps Hz rfl) (by kernel_rfl)) Hz rfl ?_
          rw [← hw, ← hA]; clear Hz az; intro az Hz
          clear hw hA
          have ok426 : ∀ zq ∈ ([ee] : List Int), KErr.ok zq := by intro zq hx; simp only [List.mem_cons, List.not_mem_nil, or_false] at hx; rcases hx with rfl <;> first | exact he64
          have r427 := (ow_k (ow_only (ow_k (ow_only (ow_k (ow_only (ow_k rE o82) s87 (fun k hk => lt_F (oneF_ge hg84) (Nat.le_refl _) k (ownF_lt rE k hk))) o379) s392 (fun k hk => ge_F (oneF_lt hl51) (size_only O407) k (ownF_ge (ow_k (ow_only (ow_k rE o82) s87 (fun k hk => lt_F (oneF_ge hg84) (Nat.le_refl _) k (ownF_lt rE k hk))) o379) k hk))) o405) o416 (ow_ne (ow_k (ow_only (ow_k (ow_only (ow_k rE o82) s87 (fun k hk => lt_F (oneF_ge hg84) (Nat.le_refl _) k (ownF_lt rE k hk))) o379) s392 (fun k hk => ge_F (oneF_lt hl51) (size_only O407) k (ownF_ge (ow_k (ow_only (ow_k rE o82) s87 (fun k hk => lt_F (oneF_ge hg84) (Nat.le_refl _) k (ownF_lt rE k hk))) o379) k hk))) o405) r408 (by decide))) o425)
          have h428 := Row.own KErr r424 ok426
          have h429 := SliceOf.pl h428
          have hb437 : (List.length (ES) + List.length ([ee])) * 8 ≤ 140737488355328 := by first | omega | (simp; omega)
          have O438 := (Only.trans (Only.trans (Only.trans (Only.trans (Only.trans (Only.trans (Only.trans (Only.trans (Only.refl (fun _ => True) w52) o62 (fun _ _ => .inl trivial)) o82 (fun _ _ => .inl trivial)) s87 (fun _ _ => .inl trivial)) o379 (fun _ _ => .inl trivial)) s392 (fun _ _ => .inl trivial)) o405 (fun _ _ => .inl trivial)) o416 (fun _ _ => .inl trivial)) o425 (fun _ _ => .inl trivial))
          obtain ⟨A430, c431, w432, hr433, r434, o435, al436⟩ := Row.app (P := Try.prog) (l := ES) (l2 := [ee]) KErr elemErr r427 h429 hb437 (by unfold maxLen; omega) (size_only O438)
          refine L (r_app hr433 Hz rfl rfl) Hz rfl ?_
          clear Hz az; intro az Hz
          have ok439 : ∀ zq ∈ (ES ++ [ee]), KErr.ok zq := (fun x hx => (List.mem_append.1 hx).elim (okE x) ((Row.oks KErr h429) x))
          have h440 := Row.own KErr r434 ok439
          refine L (r_as Hz rfl) Hz rfl ?_
          clear Hz az; intro az Hz
          refine hK69 _ _ ?_
          -- ref.go:166
          refine wp_region_lit ?_
          refine L (r_mv Hz rfl) Hz rfl ?_
          clear Hz az; intro az Hz
          have i441 : I64 ((k : Int) + 1) := by unfold I64; omega
          refine L (r_addI (r := ((k : Int) + 1)) Hz rfl rfl rfl i441) Hz rfl ?_
          clear Hz az; intro az Hz
          refine L (r_as Hz rfl) Hz rfl ?_
          clear Hz az; intro az Hz
          have O442 : Only NoF w61 w86 := (o_sg o82 s87 (Nat.le_refl _) (oneF_ge hg84))
          have r443 := (ow_only (ow_k (ow_only (ow_k (ow_only rX1 s392 (fun k hk => ge_F (oneF_lt hl51) (size_only O400) k (ownF_ge rX1 k hk))) o405) o416 (fun k hk => ge_F (ownF_lt rC) (size_only O442) k (ownF_ge (ow_k (ow_only rX1 s392 (fun k hk => ge_F (oneF_lt hl51) (size_only O400) k (ownF_ge rX1 k hk))) o405) k hk))) o425) o435 (ow_ne (ow_k (ow_only (ow_k (ow_only rX1 s392 (fun k hk => ge_F (oneF_lt hl51) (size_only O400) k (ownF_ge rX1 k hk))) o405) o416 (fun k hk => ge_F (ownF_lt rC) (size_only O442) k (ownF_ge (ow_k (ow_only rX1 s392 (fun k hk => ge_F (oneF_lt hl51) (size_only O400) k (ownF_ge rX1 k hk))) o405) k hk))) o425) r427 (by decide)))
          have O444 : Only NoF w20 w61 := (o_sg (o_sg (Only.trans' o44 o48) s53 (size_only o44) (oneF_ge hg50)) o62 (size_only o44) (oneF_ge hg50))
          have O445 : Only NoF w20 w86 := (o_sg (Only.trans' (o_sg (o_sg (Only.trans' o44 o48) s53 (size_only o44) (oneF_ge hg50)) o62 (size_only o44) (oneF_ge hg50)) o82) s87 (size_only O444) (oneF_ge hg84))
          have r446 := (ow_only (ow_k (ow_only (ow_k (ow_only rX2 s392 (fun k hk => ge_F (oneF_lt hl51) (size_only O400) k (ownF_ge rX2 k hk))) o405) o416 (ow_ne (ow_k (ow_only rX2 s392 (fun k hk => ge_F (oneF_lt hl51) (size_only O400) k (ownF_ge rX2 k hk))) o405) r408 (by decide))) o425) o435 (ow_ne (ow_k (ow_only (ow_k (ow_only rX2 s392 (fun k hk => ge_F (oneF_lt hl51) (size_only O400) k (ownF_ge rX2 k hk))) o405) o416 (ow_ne (ow_k (ow_only rX2 s392 (fun k hk => ge_F (oneF_lt hl51) (size_only O400) k (ownF_ge rX2 k hk))) o405) r408 (by decide))) o425) r427 (by decide)))
          have r447 := (ow_only (ow_k r415 o425) o435 (ow_ne (ow_k r415 o425) r427 (by decide)))
          have O448 := (Only.trans (Only.refl (fun _ => True) w52) o62 (fun _ _ => .inl trivial))
          have B449 := (Blk.only (Blk.k (Blk.only (Blk.k B393 o405) o416 (ow_nb r408 (Blk.k B393 o405) (by decide))) o425) o435 (ow_nb r427 (Blk.k (Blk.only (Blk.k B393 o405) o416 (ow_nb r408 (Blk.k B393 o405) (by decide))) o425) (by decide)))
          exact ⟨_, (by omega), k + 1, _, _, _, X1, x1, X2, x2, A411, c412, A430, c431, rfl, Hz.cut ⟨rfl, rfl, rfl, rfl, rfl, rfl, rfl, rfl, trivial⟩, (by omega), (Lnk.run_step1 hI hm73 hdo (of_decide_eq_true hc385) (of_decide_eq_true hc397)), (Only.trans (Only.trans (Only.trans (Only.trans (Only.trans (Only.trans (Only.trans (Only.trans (Only.trans (Only.refl (oneF g46) w52) o62 (fun _ h => .inl h)) o82 (fun _ h => h.elim)) s87 (fun k h => .inr (Nat.le_trans (size_only O448) ((oneF_ge hg84) k h)))) o379 (fun _ h => h.elim)) s392 (fun _ h => .inl h)) o405 (fun _ h => h.elim)) o416 (fun k h => .inr (Nat.le_trans (Nat.le_refl _) ((ownF_ge rC) k h)))) o425 (fun _ h => h.elim)) o435 (fun k h => .inr (Nat.le_trans (Nat.le_refl _) ((ownF_ge rE) k h)))), B449, (ow_low r443 (size_only O445)), (ow_low r446 (size_only O445)), (ow_low r447 (Nat.le_refl _)), (ow_low r434 (Nat.le_refl _)), okX1, okX2, ok420, ok439⟩
        · -- else9
          have p450 := of_decide_eq_false hc397
          refine wp_skip ?_
          refine hK383 _ _ ?_
          -- ref.go:191
          refine wp_region_lit ?_
          refine L (r_mv Hz rfl) Hz rfl ?_
          clear Hz az; intro az Hz
          refine L (r_mv Hz rfl) Hz rfl ?_
          clear Hz az; intro az Hz
          obtain ⟨A451, w452, hw, hA, r453, o454⟩ := Row.made (w := w391) KErr (e := 32) ([ee] : List Int) (by simp only [List.length_cons, List.length_nil]; unfold maxLen; omega)
          refine L (r_bs (z := .int .i64 (0)) (size := 1) (vs := [(0, .int .i64 (ee))]) (cs := List.flatMap KErr.cells [ee]) Try.underlying40 Try.sizeOf32 zeroErr rfl (Fr.evalps Hz rfl) (by kernel_rfl)) Hz rfl ?_
          rw [← hw, ← hA]; clear Hz az; intro az Hz
          clear hw hA
          have ok455 : ∀ zq ∈ ([ee] : List Int), KErr.ok zq := by intro zq hx; simp only [List.mem_cons, List.not_mem_nil, or_false] at hx; rcases hx with rfl <;> first | exact he64
          have O456 := (Only.trans (Only.refl (fun _ => True) w47) s53 (fun _ _ => .inl trivial))
          have r457 := (ow_k (ow_only (ow_k (ow_only (ow_k rE o82) s87 (fun k hk => lt_F (oneF_ge hg84) (Nat.le_refl _) k (ownF_lt rE k hk))) o379) s392 (fun k hk => ge_F (oneF_lt hl51) (size_only O456) k (ownF_ge (ow_k (ow_only (ow_k rE o82) s87 (fun k hk => lt_F (oneF_ge hg84) (Nat.le_refl _) k (ownF_lt rE k hk))) o379) k hk))) o454)
          have h458 := Row.own KErr r453 ok455
          have h459 := SliceOf.pl h458
          have hb467 : (List.length (ES) + List.length ([ee])) * 8 ≤ 140737488355328 := by first | omega | (simp; omega)
          have O468 := (Only.trans (Only.trans (Only.trans (Only.trans (Only.trans (Only.trans (Only.refl (fun _ => True) w52) o62 (fun _ _ => .inl trivial)) o82 (fun _ _ => .inl trivial)) s87 (fun _ _ => .inl trivial)) o379 (fun _ _ => .inl trivial)) s392 (fun _ _ => .inl trivial)) o454 (fun _ _ => .inl trivial))
          obtain ⟨A460, c461, w462, hr463, r464, o465, al466⟩ := Row.app (P := Try.prog) (l := ES) (l2 := [ee]) KErr elemErr r457 h459 hb467 (by unfold maxLen; omega) (size_only O468)
          refine L (r_app hr463 Hz rfl rfl) Hz rfl ?_
          clear Hz az; intro az Hz
          have ok469 : ∀ zq ∈ (ES ++ [ee]), KErr.ok zq := (fun x hx => (List.mem_append.1 hx).elim (okE x) ((Row.oks KErr h459) x))
          have h470 := Row.own KErr r464 ok469
          refine L (r_as Hz rfl) Hz rfl ?_
          clear Hz az; intro az Hz
          refine hK69 _ _ ?_
          -- ref.go:166
          refine wp_region_lit ?_
          refine L (r_mv Hz rfl) Hz rfl ?_
          clear Hz az; intro az Hz
          have i471 : I64 ((k : Int) + 1) := by unfold I64; omega
          refine L (r_addI (r := ((k : Int) + 1)) Hz rfl rfl rfl i471) Hz rfl ?_
          clear Hz az; intro az Hz
          refine L (r_as Hz rfl) Hz rfl ?_
          clear Hz az; intro az Hz
          have O472 := (Only.trans (Only.trans (Only.trans (Only.trans (Only.refl (fun _ => True) w47) s53 (fun _ _ => .inl trivial)) o62 (fun _ _ => .inl trivial)) o82 (fun _ _ => .inl trivial)) s87 (fun _ _ => .inl trivial))
          have r473 := (ow_only (ow_k (ow_only rX1 s392 (fun k hk => ge_F (oneF_lt hl51) (size_only O472) k (ownF_ge rX1 k hk))) o454) o465 (ow_ne (ow_k (ow_only rX1 s392 (fun k hk => ge_F (oneF_lt hl51) (size_only O472) k (ownF_ge rX1 k hk))) o454) r457 (by decide)))
          have O474 : Only NoF w20 w61 := (o_sg (o_sg (Only.trans' o44 o48) s53 (size_only o44) (oneF_ge hg50)) o62 (size_only o44) (oneF_ge hg50))
          have O475 : Only NoF w20 w86 := (o_sg (Only.trans' (o_sg (o_sg (Only.trans' o44 o48) s53 (size_only o44) (oneF_ge hg50)) o62 (size_only o44) (oneF_ge hg50)) o82) s87 (size_only O474) (oneF_ge hg84))
          have r476 := (ow_only (ow_k (ow_only rX2 s392 (fun k hk => ge_F (oneF_lt hl51) (size_only O472) k (ownF_ge rX2 k hk))) o454) o465 (ow_ne (ow_k (ow_only rX2 s392 (fun k hk => ge_F (oneF_lt hl51) (size_only O472) k (ownF_ge rX2 k hk))) o454) r457 (by decide)))
          have r477 := (ow_only (ow_k (ow_only (ow_k (ow_only (ow_k rC o82) s87 (fun k hk => lt_F (oneF_ge hg84) (Nat.le_refl _) k (ownF_lt rC k hk))) o379) s392 (fun k hk => ge_F (oneF_lt hl51) (size_only O456) k (ownF_ge (ow_k (ow_only (ow_k rC o82) s87 (fun k hk => lt_F (oneF_ge hg84) (Nat.le_refl _) k (ownF_lt rC k hk))) o379) k hk))) o454) o465 (ow_ne (ow_k (ow_only (ow_k (ow_only (ow_k rC o82) s87 (fun k hk => lt_F (oneF_ge hg84) (Nat.le_refl _) k (ownF_lt rC k hk))) o379) s392 (fun k hk => ge_F (oneF_lt hl51) (size_only O456) k (ownF_ge (ow_k (ow_only (ow_k rC o82) s87 (fun k hk => lt_F (oneF_ge hg84) (Nat.le_refl _) k (ownF_lt rC k hk))) o379) k hk))) o454) r457 (by decide)))
          have O478 := (Only.trans (Only.refl (fun _ => True) w52) o62 (fun _ _ => .inl trivial))
          have B479 := (Blk.only (Blk.k B393 o454) o465 (ow_nb r457 (Blk.k B393 o454) (by decide)))
          exact ⟨_, (by omega), k + 1, _, _, _, X1, x1, X2, x2, C1, cc, A460, c461, rfl, Hz.cut ⟨rfl, rfl, rfl, rfl, rfl, rfl, rfl, rfl, trivial⟩, (by omega), (Lnk.run_step2 hI hm73 hdo (of_decide_eq_true hc385) (of_decide_eq_false hc397)), (Only.trans (Only.trans (Only.trans (Only.trans (Only.trans (Only.trans (Only.trans (Only.refl (oneF g46) w52) o62 (fun _ h => .inl h)) o82 (fun _ h => h.elim)) s87 (fun k h => .inr (Nat.le_trans (size_only O478) ((oneF_ge hg84) k h)))) o379 (fun _ h => h.elim)) s392 (fun _ h => .inl h)) o454 (fun _ h => h.elim)) o465 (fun k h => .inr (Nat.le_trans (Nat.le_refl _) ((ownF_ge rE) k h)))), B479, (ow_low r473 (size_only O475)), (ow_low r476 (size_only O475)), (ow_low r477 (Nat.le_refl _)), (ow_low r464 (Nat.le_refl _)), okX1, okX2, okC, ok469⟩
      · -- else8
        have p480 := of_decide_eq_false hc385
        refine wp_skip ?_
        refine hK383 _ _ ?_
        -- ref.go:191
        refine wp_region_lit ?_
        refine L (r_mv Hz rfl) Hz rfl ?_
        clear Hz az; intro az Hz
        refine L (r_mv Hz rfl) Hz rfl ?_
        clear Hz az; intro az Hz
        obtain ⟨A481, w482, hw, hA, r483, o484⟩ := Row.made (w := w378) KErr (e := 32) ([ee] : List Int) (by simp only [List.length_cons, List.length_nil]; unfold maxLen; omega)
        refine L (r_bs (z := .int .i64 (0)) (size := 1) (vs := [(0, .int .i64 (ee))]) (cs := List.flatMap KErr.cells [ee]) Try.underlying40 Try.sizeOf32 zeroErr rfl (Fr.evalps Hz rfl) (by kernel_rfl)) Hz rfl ?_
        rw [← hw, ← hA]; clear Hz az; intro az Hz
        clear hw hA
        have ok485 : ∀ zq ∈ ([ee] : List Int), KErr.ok zq := by intro zq hx; simp only [List.mem_cons, List.not_mem_nil, or_false] at hx; rcases hx with rfl <;> first | exact he64
        have r486 := (ow_k (ow_k (ow_only (ow_k rE o82) s87 (fun k hk => lt_F (oneF_ge hg84) (Nat.le_refl _) k (ownF_lt rE k hk))) o379) o484)
        have h487 := Row.own KErr r483 ok485
        have h488 := SliceOf.pl h487
        have hb496 : (List.length (ES) + List.length ([ee])) * 8 ≤ 140737488355328 := by first | omega | (simp; omega)
        have O497 := (Only.trans (Only.trans (Only.trans (Only.trans (Only.trans (Only.refl (fun _ => True) w52) o62 (fun _ _ => .inl trivial)) o82 (fun _ _ => .inl trivial)) s87 (fun _ _ => .inl trivial)) o379 (fun _ _ => .inl trivial)) o484 (fun _ _ => .inl trivial))
        obtain ⟨A489, c490, w491, hr492, r493, o494, al495⟩ := Row.app (P := Try.prog) (l := ES) (l2 := [ee]) KErr elemErr r486 h488 hb496 (by unfold maxLen; omega) (size_only O497)
        refine L (r_app hr492 Hz rfl rfl) Hz rfl ?_
        clear Hz az; intro az Hz
        have ok498 : ∀ zq ∈ (ES ++ [ee]), KErr.ok zq := (fun x hx => (List.mem_append.1 hx).elim (okE x) ((Row.oks KErr h488) x))
        have h499 := Row.own KErr r493 ok498
        refine L (r_as Hz rfl) Hz rfl ?_
        clear Hz az; intro az Hz
        refine hK69 _ _ ?_
        -- ref.go:166
        refine wp_region_lit ?_
        refine L (r_mv Hz rfl) Hz rfl ?_
        clear Hz az; intro az Hz
        have i500 : I64 ((k : Int) + 1) := by unfold I64; omega
        refine L (r_addI (r := ((k : Int) + 1)) Hz rfl rfl rfl i500) Hz rfl ?_
        clear Hz az; intro az Hz
        refine L (r_as Hz rfl) Hz rfl ?_
        clear Hz az; intro az Hz
        have r501 := (ow_only (ow_k (ow_k (ow_only (ow_k rN1 o82) s87 (fun k hk => lt_F (oneF_ge hg84) (Nat.le_refl _) k (ownF_lt rN1 k hk))) o379) o484) o494 (ow_ne (ow_k (ow_k (ow_only (ow_k rN1 o82) s87 (fun k hk => lt_F (oneF_ge hg84) (Nat.le_refl _) k (ownF_lt rN1 k hk))) o379) o484) r486 (by decide)))
        have r502 := (ow_only (ow_k (ow_k (ow_only (ow_k rN2 o82) s87 (fun k hk => lt_F (oneF_ge hg84) (Nat.le_refl _) k (ownF_lt rN2 k hk))) o379) o484) o494 (ow_ne (ow_k (ow_k (ow_only (ow_k rN2 o82) s87 (fun k hk => lt_F (oneF_ge hg84) (Nat.le_refl _) k (ownF_lt rN2 k hk))) o379) o484) r486 (by decide)))
        have r503 := (ow_only (ow_k (ow_k (ow_only (ow_k rC o82) s87 (fun k hk => lt_F (oneF_ge hg84) (Nat.le_refl _) k (ownF_lt rC k hk))) o379) o484) o494 (ow_ne (ow_k (ow_k (ow_only (ow_k rC o82) s87 (fun k hk => lt_F (oneF_ge hg84) (Nat.le_refl _) k (ownF_lt rC k hk))) o379) o484) r486 (by decide)))
        have O504 := (Only.trans (Only.refl (fun _ => True) w52) o62 (fun _ _ => .inl trivial))
        have O506 := (Only.trans (Only.trans (Only.refl (fun _ => True) w47) s53 (fun _ _ => .inl trivial)) o62 (fun _ _ => .inl trivial))
        have ne505 : g46 ≠ g80 := (ne_of hl51 (Nat.le_trans (size_only O506) hg84))
        have B507 := (Blk.only (Blk.k (Blk.k (Blk.st (Blk.k B64 o82) s87 ne505) o379) o484) o494 (ow_nb r486 (Blk.k (Blk.k (Blk.st (Blk.k B64 o82) s87 ne505) o379) o484) (by decide)))
        exact ⟨_, (by omega), k + 1, _, _, _, N1, n1, N2, n2, C1, cc, A489, c490, rfl, Hz.cut ⟨rfl, rfl, rfl, rfl, rfl, rfl, rfl, rfl, trivial⟩, (by omega), (Lnk.run_step3 hI hm73 hdo (of_decide_eq_false hc385)), (Only.trans (Only.trans (Only.trans (Only.trans (Only.trans (Only.trans (Only.refl (oneF g46) w52) o62 (fun _ h => .inl h)) o82 (fun _ h => h.elim)) s87 (fun k h => .inr (Nat.le_trans (size_only O504) ((oneF_ge hg84) k h)))) o379 (fun _ h => h.elim)) o484 (fun _ h => h.elim)) o494 (fun k h => .inr (Nat.le_trans (Nat.le_refl _) ((ownF_ge rE) k h)))), B507, (ow_low r501 (Nat.le_refl _)), (ow_low r502 (Nat.le_refl _)), (ow_low r503 (Nat.le_refl _)), (ow_low r493 (Nat.le_refl _)), okN1, okN2, okC, ok498⟩
    · -- else1
      have p508 := of_decide_eq_false hc67
      refine wp_exit ?_
      refine th_exit ?_
      refine th_exit ?_
      refine ib_hit ?_
      refine hK57 _ _ ?_
      refine wp_seq_k fun K509 hK509 => ?_
      -- ref.go:193
      refine wp_region_lit ?_
      refine L (r_ldA Try.isAgg25 Try.sizeOf25 Hz rfl (Blk.ca B64) rfl) Hz rfl ?_
      clear Hz az; intro az Hz
      refine L (r_mv Hz rfl) Hz rfl ?_
      clear Hz az; intro az Hz
      refine L (r_mv Hz rfl) Hz rfl ?_
      clear Hz az; intro az Hz
      have O511 : Only NoF w9 w45 := (Only.trans' o21 o44)
      have ne510 : g8 ≠ g46 := (ne_of hl13 (Nat.le_trans (size_only O511) hg50))
      have B512 := (Blk.st (Blk.st (Blk.k (Blk.k (Blk.k B11 o21) o44) o48) s53 ne510) o62 ne510)
      refine LSt (cs' := [.slice N1 (N.ms.length) n1, .slice N2 (N.cs.length) n2]) Try.sizeOf25 Hz rfl rfl rfl rfl rfl ⟨rfl, rfl, trivial⟩ B512 rfl rfl fun w513 s514 B515 => ?_
      refine L (r_as Hz rfl) Hz rfl ?_
      clear Hz az; intro az Hz
      refine L (r_as Hz rfl) Hz rfl ?_
      clear Hz az; intro az Hz
      refine hK509 _ _ ?_
      refine wp_ret ?_
      show bodyPost _ _ _ .ret _ _
      refine ret_of (vs := [.agg #[.slice N1 (N.ms.length) n1, .slice N2 (N.cs.length) n2], .slice C1 (CM.length) cc, .slice E1 (ES.length) ce]) Hz Try.results25 ⟨⟨_, rfl, l_ca Try.isAgg25 Try.sizeOf25 (Blk.ca B515) rfl⟩, rfl, rfl, trivial⟩ ?_
      have hfin := Lnk.run_yes hra hI (by omega)
      rw [hfin]
      have r516 := (ow_only rN1 s514 (fun k hk => ge_F (oneF_lt hl13) (size_only o21) k (ownF_ge rN1 k hk)))
      have r517 := (ow_only rN2 s514 (fun k hk => ge_F (oneF_lt hl13) (size_only o21) k (ownF_ge rN2 k hk)))
      have O518 : Only NoF w9 w52 := (o_sg (Only.trans' O511 o48) s53 (size_only O511) (oneF_ge hg50))
      have r519 := (ow_only rC s514 (fun k hk => ge_F (oneF_lt hl13) (size_only O518) k (ownF_ge rC k hk)))
      have O520 : Only NoF w w45 := (Only.trans' O33 o44)
      have O521 : Only NoF w w52 := (o_sg (Only.trans' (Only.trans' O33 o44) o48) s53 (size_only O520) (oneF_ge hg50))
      have r522 := (ow_only rE s514 (fun k hk => ge_F (oneF_lt hl13) (size_only O518) k (ownF_ge rE k hk)))
      have O523 : Only NoF w w513 := (o_sg (o_sg O521 o62 (size_only O520) (oneF_ge hg50)) s514 (size_only o4) (oneF_ge hg12))
      exact ⟨_, _, _, _, _, _, _, _, rfl, Row.own KMsg (ow_low r516 (size_only O33)) okN1, Row.own KPr (ow_low r517 (size_only O33)) okN2, Row.own KMsg (ow_low r519 (size_only O521)) okC, Row.own KErr (ow_low r522 (size_only O521)) okE, O523⟩
end Go.Proofs.Ytocbfobakmieoaa
