/-
  Gossip: the reference's SameChain, walked (as in the store's chapter). No condition.
-/
import Derived.Test.YtdcbjedkddgfkaaDoorGo15
namespace Go.Proofs.YtdcbjedkddgfkaaDoor
set_option linter.unusedVariables false
set_option linter.unusedSimpArgs false
set_option linter.unusedSectionVars false
open Go.RowKit
section
variable {l l2 : List NM} {k : Nat} {m m2 : NM}
theorem sc_len (h : (!decide (((l.length : Nat) : Int) = ((l2.length : Nat) : Int))) = true) : decide (l.map ns = l2.map ns) = false := by
 refine decide_eq_false fun e => ?_
 have := congrArg List.length e
 rw [List.length_map, List.length_map] at this
 rw [this] at h; simp at h
theorem sc_len2 (h : (!decide (((l.length : Nat) : Int) = ((l2.length : Nat) : Int))) = false) : l.length = l2.length := by
 have := of_decide_eq_true (nt_f h); omega
theorem sc_step (hm : l[k]? = some m) (hm2 : l2[k]? = some m2) (hs : (l.take k).map ns = (l2.take k).map ns) (h : (!same m m2) = false) : (l.take (k + 1)).map ns = (l2.take (k + 1)).map ns := by
 rw [take_succ_get hm, take_succ_get hm2, List.map_append, List.map_append, hs, List.map_singleton, List.map_singleton, same_ns.1 (nt_f h)]
theorem sc_no (hm : l[k]? = some m) (hm2 : l2[k]? = some m2) (h : (!same m m2) = true) : decide (l.map ns = l2.map ns) = false := by
 refine decide_eq_false fun e => ?_
 have := congrArg (fun x => x[k]?) e
 simp only [List.getElem?_map, hm, hm2, Option.map_some, Option.some.injEq] at this
 rw [same_ns.2 this] at h; cases h
theorem sc_yes (hl : l.length = l2.length) (hk : l.length ≤ k) (hs : (l.take k).map ns = (l2.take k).map ns) : decide (l.map ns = l2.map ns) = true := by
 rw [List.take_of_length_le hk, List.take_of_length_le (by omega)] at hs
 exact decide_eq_true hs
end
set_option maxRecDepth 20000 in
set_option maxHeartbeats 4000000 in
theorem rSameChain_v_ {w : World} {l l2 : List NM} {A1 A2 : Option Addr} {c1 c2 : Nat} (f1 : NotesV w w (.slice A1 l.length c1) l) (f2 : NotesV w w (.slice A2 l2.length c2) l2) : Calls Tryd.prog 12 [.slice A1 l.length c1, .slice A2 l2.length c2].toArray w (Fix (.bool (decide (l.map ns = l2.map ns))) w) := by
 have hbd1 := Nat.le_trans (SliceOf.cap_ f1) (SliceOf.lens f1).2
 refine calls_start Tryd.func12 rfl rfl ?_
 intro az Z
 rw [Tryd.ntmps12] at Z
 refine wp_seq_k fun _ k1 => wp_region_lit ?_
 refine L (r_as Z rfl) Z rfl ?_; clear Z az; intro az Z
 refine k1 _ _ (wp_seq_k fun _ k2 => ?_)
 refine wp_seq_k fun _ k3 => wp_region_lit ?_
 refine L (r_mv Z rfl) Z rfl ?_; clear Z az; intro az Z
 refine L (r_lenL Tryd.underlying22 Z rfl) Z rfl ?_; clear Z az; intro az Z
 refine L (r_mv Z rfl) Z rfl ?_; clear Z az; intro az Z
 refine L (r_lenL Tryd.underlying22 Z rfl) Z rfl ?_; clear Z az; intro az Z
 refine L (r_neI Z rfl rfl) Z rfl ?_; clear Z az; intro az Z
 refine k3 _ _ ?_
 refine br Z rfl (fun hc4 => ?_) (fun hc4 => ?_)
 ·
  have p5 := of_decide_eq_false (nt_t hc4)
  refine wp_seq_k fun _ k6 => wp_region_lit ?_
  refine L (r_as Z rfl) Z rfl ?_; clear Z az; intro az Z
  refine k6 _ _ ?_
  refine wp_ret ?_
  show bodyPost _ _ _ .ret _ _
  refine ret_of (vs := [.bool (false)]) Z Tryd.results12 ⟨rfl, trivial⟩ ?_
  rw [sc_len hc4]
  exact ⟨rfl, (Only.refl NoF w)⟩
 ·
  have p7 := of_decide_eq_true (nt_f hc4)
  refine wp_skip ?_
  refine k2 _ _ (wp_seq_k fun _ k8 => ?_)
  refine wp_seq_k fun _ k9 => wp_region_lit ?_
  refine L (r_as Z rfl) Z rfl ?_; clear Z az; intro az Z
  refine k9 _ _ ?_
  refine wp_block ?_
  refine wp_loop_m (fun mz az W => ∃ k : Nat, mz = l.length - k ∧ Fr 27 [(0, .slice A1 (l.length) c1), (1, .slice A2 (l2.length) c2), (5, .int .i64 ((k : Int)))] az ∧ (k ≤ l.length) ∧ ((l.take k).map ns = (l2.take k).map ns) ∧ Only NoF w W) ?_ ?_
  ·
   exact ⟨_, 0, rfl, Z.cut ⟨rfl, rfl, rfl, trivial⟩, Nat.zero_le _, rfl, (Only.refl NoF w)⟩
  clear Z az
  rintro mz az w10 ⟨k, hm12, Z, hk, hsm, o11⟩
  have hll := sc_len2 hc4
  refine wp_seq_k fun _ k13 => ?_
  refine wp_seq_k fun _ k14 => wp_region_lit ?_
  refine L (r_mv Z rfl) Z rfl ?_; clear Z az; intro az Z
  refine L (r_mv Z rfl) Z rfl ?_; clear Z az; intro az Z
  refine L (r_lenL Tryd.underlying22 Z rfl) Z rfl ?_; clear Z az; intro az Z
  refine L (r_ltI Z rfl rfl) Z rfl ?_; clear Z az; intro az Z
  refine k14 _ _ ?_
  refine br Z rfl (fun hc15 => ?_) (fun hc15 => ?_)
  ·
   have p16 := of_decide_eq_true hc15
   refine wp_skip ?_
   refine k13 _ _ (wp_seq_k fun _ k17 => ?_)
   refine wp_block ?_
   refine wp_seq_k fun _ k18 => ?_
   refine reg_p NoF 1 [8] (.rd 0 (.rd 1 (.rd 2 (.rd 3 (.rd 4 (.rd 5 (.rd 6 (.rd 7 (.ex 8 (.rd 9 .nil)))))))))) (by kernel_rfl) (by kernel_rfl) (fun _ _ _ _ _ h => h) fun w19 o20 => ?_
   refine Pl.MSP (b := true) (by kernel_rfl) (fun W oW => r_mv Z rfl) Z rfl rfl ?_; clear Z az; intro az Z
   refine Pl.MSP (b := true) (by kernel_rfl) (fun W oW => r_mv Z rfl) Z rfl rfl ?_; clear Z az; intro az Z
   have hk21 : k < (l).length := by omega
   have O27 : Only NoF w w19 := (Only.trans' o11 o20)
   have h28 := (SliceOf.kp f1 O27 (fun _ _ h => h) (fun _ _ _ _ h => h))
   obtain ⟨m22, hm23, ok24, hA25⟩ := Row.el (KNote w) h28 hk21
   have E26 : ∀ W, Only NoF w19 W → CA W (eA A1 5 (k)) [.int .i64 (m22.h), .int .i64 (m22.n), .int .i64 (m22.d), .slice m22.A (m22.l.length) m22.c, strV (m22.s)] := Row.ce (KNote w) h28 hm23 rfl
   refine Pl.MSP (b := true) (by kernel_rfl) (fun W oW => r_ia (k := k) (size := 5) Tryd.underlying22 Tryd.sizeOf42 Z rfl rfl rfl hk21 hA25) Z rfl rfl ?_; clear Z az; intro az Z
   refine Pl.MSP (b := true) (by kernel_rfl) (fun W oW => r_ldA Tryd.isAgg42 Tryd.sizeOf42 Z rfl (E26 _ (Only.trans' (Only.refl NoF w19) oW)) rfl) Z rfl rfl ?_; clear Z az; intro az Z
   refine Pl.MSP (b := true) (by kernel_rfl) (fun W oW => r_mv Z rfl) Z rfl rfl ?_; clear Z az; intro az Z
   refine Pl.MSP (b := true) (by kernel_rfl) (fun W oW => r_mv Z rfl) Z rfl rfl ?_; clear Z az; intro az Z
   have hk29 : k < (l2).length := by omega
   have h35 := (SliceOf.kp f2 O27 (fun _ _ h => h) (fun _ _ _ _ h => h))
   obtain ⟨m30, hm31, ok32, hA33⟩ := Row.el (KNote w) h35 hk29
   have E34 : ∀ W, Only NoF w19 W → CA W (eA A2 5 (k)) [.int .i64 (m30.h), .int .i64 (m30.n), .int .i64 (m30.d), .slice m30.A (m30.l.length) m30.c, strV (m30.s)] := Row.ce (KNote w) h35 hm31 rfl
   refine Pl.MSP (b := true) (by kernel_rfl) (fun W oW => r_ia (k := k) (size := 5) Tryd.underlying22 Tryd.sizeOf42 Z rfl rfl rfl hk29 hA33) Z rfl rfl ?_; clear Z az; intro az Z
   refine Pl.MSP (b := true) (by kernel_rfl) (fun W oW => r_ldA Tryd.isAgg42 Tryd.sizeOf42 Z rfl (E34 _ (Only.trans' (Only.refl NoF w19) oW)) rfl) Z rfl rfl ?_; clear Z az; intro az Z
   have h36 := (SliceOf.kp ok24.2.2.2.1 O27 (fun _ _ h => h) (fun _ _ _ _ h => h))
   have h37 := (SliceOf.kp ok32.2.2.2.1 O27 (fun _ _ h => h) (fun _ _ _ _ h => h))
   refine Pl.MSV (v := .bool (same m22 m30)) Z rfl rfl rfl Tryd.call36 (rSame_v (m := m22) (m2 := m30) h36 h37) rfl (fun w' o' => ⟨fun _ => o', (Only.trans (Only.refl NoF w19) o' (fun _ h => h.elim))⟩) fun w38 o39 => ?_; clear Z az; intro az Z
   refine Pl.MSP (b := true) (by kernel_rfl) (fun W oW => r_not Z rfl) Z rfl rfl ?_; clear Z az; intro az Z
   refine wpPl_nil ?_
   refine k18 _ _ ?_
   refine br Z rfl (fun hc40 => ?_) (fun hc40 => ?_)
   ·
    have q41 : same m22 m30 = false := (nt_t hc40)
    refine wp_seq_k fun _ k42 => wp_region_lit ?_
    refine L (r_as Z rfl) Z rfl ?_; clear Z az; intro az Z
    refine k42 _ _ ?_
    refine wp_ret ?_
    show bodyPost _ _ _ .ret _ _
    refine ret_of (vs := [.bool (false)]) Z Tryd.results12 ⟨rfl, trivial⟩ ?_
    have O43 : Only NoF w w38 := (Only.trans' O27 o39)
    rw [sc_no hm23 hm31 hc40]
    exact ⟨rfl, O43⟩
   ·
    have q44 : same m22 m30 = true := (nt_f hc40)
    refine wp_skip ?_
    refine k17 _ _ ?_
    refine wp_region_lit ?_
    refine L (r_mv Z rfl) Z rfl ?_; clear Z az; intro az Z
    have i45 : I64 (((k : Int) + 1)) := by unfold I64; omega
    refine L (r_addI (r := ((k : Int) + 1)) Z rfl rfl rfl i45) Z rfl ?_; clear Z az; intro az Z
    refine L (r_as Z rfl) Z rfl ?_; clear Z az; intro az Z
    have O46 : Only NoF w w38 := (Only.trans' O27 o39)
    exact ⟨_, (by omega), k + 1, rfl, Z.cut ⟨rfl, rfl, rfl, trivial⟩, (by omega), (sc_step hm23 hm31 hsm hc40), O46⟩
  ·
   have p47 := of_decide_eq_false hc15
   refine wp_exit ?_
   refine th_exit ?_
   refine th_exit ?_
   refine ib_hit ?_
   refine k8 _ _ (wp_seq_k fun _ k48 => wp_region_lit ?_)
   refine L (r_as Z rfl) Z rfl ?_; clear Z az; intro az Z
   refine k48 _ _ ?_
   refine wp_ret ?_
   show bodyPost _ _ _ .ret _ _
   refine ret_of (vs := [.bool (true)]) Z Tryd.results12 ⟨rfl, trivial⟩ ?_
   rw [sc_yes hll (by omega) hsm]
   exact ⟨rfl, o11⟩
theorem rSameChain_v {w : World} {v v2 : Value} {l l2 : List NM} (f1 : NotesV w w v l) (f2 : NotesV w w v2 l2) : Calls Tryd.prog 12 #[v, v2] w (Fix (.bool (decide (l.map ns = l2.map ns))) w) := by
 obtain ⟨A1, c1, rfl, _⟩ := SliceOf.shape f1
 obtain ⟨A2, c2, rfl, _⟩ := SliceOf.shape f2
 exact rSameChain_v_ f1 f2
end Go.Proofs.YtdcbjedkddgfkaaDoor
