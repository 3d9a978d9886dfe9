/-
  The law side's own and place, walked. Condition: at most 1,000,000 messages.
-/
import Derived.Test.YtocbfobakmieoaaLkO1
import Derived.Test.YtocbfobakmieoaaLkR4
import Derived.Test.YtocbfobakmieoaaLkV1
namespace Go.Proofs.Ytocbfobakmieoaa
set_option linter.unusedVariables false
set_option linter.unusedSimpArgs false
set_option linter.unusedSectionVars false
open Go.RowKit

def OwnTo (w : World) (l : List Msg) (e : Ending) (w' : World) : Prop :=
  ∃ A c, e = .returned (.slice A l.length c) ∧ w'.ownsRow w.heap.size 27 3 (.slice A l.length c) l.length (l.flatMap KMsg.cells) ∧ (∀ x ∈ l, KMsg.ok x) ∧ Only NoF w w'
theorem betw_eq (m : Msg) (x y : Int) : betw m x y = Lnk.betw x y m := by
  rw [Bool.eq_iff_iff]
  simp [betw, Lnk.betw]
theorem between_v (w : World) (m : Msg) (x y : Int) : Calls Try.prog 32 #[msgV m, .int .i64 x, .int .i64 y] w (Fix (.bool (Lnk.betw x y m)) w) := by
  have := l38between_c w m x y
  rw [betw_eq] at this
  exact this
namespace Lnk
theorem own_step_in {p : Msg → Bool} {l : List Msg} {k : Nat} {x : Msg} (hm : l[k]? = some x) (h : p x = true) : (l.take k).filter p ++ [x] = (l.take (k + 1)).filter p := by
  obtain ⟨hk, rfl⟩ := List.getElem?_eq_some_iff.1 hm
  rw [List.take_succ_eq_append_getElem hk, List.filter_append]
  simp [h]
theorem own_step_out {p : Msg → Bool} {l : List Msg} {k : Nat} {x : Msg} (hm : l[k]? = some x) (h : p x = false) : (l.take k).filter p = (l.take (k + 1)).filter p := by
  obtain ⟨hk, rfl⟩ := List.getElem?_eq_some_iff.1 hm
  rw [List.take_succ_eq_append_getElem hk, List.filter_append]
  simp [h]
end Lnk
set_option maxHeartbeats 4000000 in
theorem own_v_ {w : World} {l : List Msg} {A1 : Option Addr} {c1 : Nat} (f1 : Msgs w (.slice A1 l.length c1) l) (x y : Int) (hl : l.length ≤ 1000000) : Calls Try.prog 31 [.slice A1 l.length c1, .int .i64 x, .int .i64 y].toArray w (OwnTo w (l.filter (Lnk.betw x y))) := by
  refine calls_start Try.func31 rfl rfl ?_
  intro az Hz
  rw [Try.ntmps31] at Hz
  refine wp_seq_k fun K1 hK1 => ?_
  -- law.go:181
  refine wp_region_lit ?_
  refine L (r_as Hz rfl) Hz rfl ?_
  clear Hz az; intro az Hz
  refine hK1 _ _ ?_
  refine wp_seq_k fun K2 hK2 => ?_
  -- law.go:182
  refine wp_region_lit ?_
  obtain ⟨A3, w4, hw, hA, r5, o6⟩ := made0 (w := w) (e := 27) (size := 3)
  refine L (r_bs0 Try.underlying22 Try.sizeOf27) Hz rfl ?_
  rw [← hw, ← hA]; clear Hz az; intro az Hz
  clear hw hA
  refine L (r_as Hz rfl) Hz rfl ?_
  clear Hz az; intro az Hz
  refine hK2 _ _ ?_
  refine wp_seq_k fun K7 hK7 => ?_
  refine wp_seq_k fun K8 hK8 => ?_
  -- law.go:183
  refine wp_region_lit ?_
  refine L (r_as Hz rfl) Hz rfl ?_
  clear Hz az; intro az Hz
  refine hK8 _ _ ?_
  refine wp_block ?_
  refine wp_loop_m (fun mz az W => ∃ k : Nat, ∃ O : List Msg, ∃ Ao : Option Addr, ∃ co : Nat, mz = l.length - k ∧ Fr 31 [(0, .slice A1 (l.length) c1), (1, .int .i64 (x)), (2, .int .i64 (y)), (6, .slice none (0) 0), (8, .int .i64 ((k : Int))), (7, .slice Ao (O.length) co)] az ∧ (k ≤ l.length) ∧ (O = (l.take k).filter (Lnk.betw x y)) ∧ Only NoF w W ∧ W.ownsRow w.heap.size 27 3 (.slice Ao (O).length co) (O).length (List.flatMap KMsg.cells O)) ?_ ?_
  · -- start
    exact ⟨_, 0, [], A3, 0, rfl, Hz.cut ⟨rfl, rfl, rfl, rfl, rfl, rfl, trivial⟩, Nat.zero_le _, rfl, o6, r5⟩
  clear Hz az
  rintro mz az w9 ⟨k, O, Ao, co, hm11, Hz, hk, hO, o10, rO⟩
  have hdl : O.length ≤ k := by rw [hO]; exact Nat.le_trans (List.length_filter_le _ _) (by rw [List.length_take]; omega)
  have okO : ∀ x ∈ O, KMsg.ok x := by rw [hO]; exact fun z hz => Row.oks KMsg f1 z (List.mem_of_mem_take (List.mem_filter.1 hz).1)
  refine wp_seq_k fun K12 hK12 => ?_
  refine wp_seq_k fun K13 hK13 => ?_
  -- law.go:183
  refine wp_region_lit ?_
  refine L (r_mv Hz rfl) Hz rfl ?_
  clear Hz az; intro az Hz
  refine L (r_mv Hz rfl) Hz rfl ?_
  clear Hz az; intro az Hz
  refine L (r_lenL Try.underlying22 Hz rfl) Hz rfl ?_
  clear Hz az; intro az Hz
  refine L (r_ltI Hz rfl rfl) Hz rfl ?_
  clear Hz az; intro az Hz
  refine hK13 _ _ ?_
  refine br Hz rfl (fun hc14 => ?_) (fun hc14 => ?_)
  · -- if0
    have p15 := of_decide_eq_true hc14
    refine wp_skip ?_
    refine hK12 _ _ ?_
    refine wp_seq_k fun K16 hK16 => ?_
    refine wp_block ?_
    refine wp_seq_k fun K17 hK17 => ?_
    -- law.go:184
    refine wp_region_lit ?_
    refine L (r_mv Hz rfl) Hz rfl ?_
    clear Hz az; intro az Hz
    refine L (r_mv Hz rfl) Hz rfl ?_
    clear Hz az; intro az Hz
    have hk18 : k < (l).length := by omega
    have h24 := (SliceOf.kp f1 o10 (fun _ _ h => h) (fun _ _ _ _ h => h))
    obtain ⟨m19, hm20, ok21, hA22⟩ := Row.el KMsg h24 hk18
    have E23 : ∀ W, Only NoF w9 W → CA W (eA A1 3 (k)) [.int .i64 (m19.a), .int .i64 (m19.b), strV (m19.t)] := Row.ce KMsg h24 hm20 rfl
    refine L (r_ia (k := k) (size := 3) Try.underlying22 Try.sizeOf27 Hz rfl rfl rfl hk18 hA22) Hz rfl ?_
    clear Hz az; intro az Hz
    refine L (r_ldA Try.isAgg27 Try.sizeOf27 Hz rfl (E23 _ (Only.refl NoF w9)) rfl) Hz rfl ?_
    clear Hz az; intro az Hz
    refine L (r_mv Hz rfl) Hz rfl ?_
    clear Hz az; intro az Hz
    refine L (r_mv Hz rfl) Hz rfl ?_
    clear Hz az; intro az Hz
    refine LCV (v := .bool (Lnk.betw x y m19)) Hz rfl rfl Try.call32 (between_v _ m19 x y) rfl fun w25 o26 => ?_
    clear Hz az; intro az Hz
    refine hK17 _ _ ?_
    refine br Hz rfl (fun hc27 => ?_) (fun hc27 => ?_)
    · -- if1
      have q28 : Lnk.betw x y m19 = true := hc27
      -- law.go:185
      refine wp_region_lit ?_
      refine L (r_mv Hz rfl) Hz rfl ?_
      clear Hz az; intro az Hz
      refine L (r_mv Hz rfl) Hz rfl ?_
      clear Hz az; intro az Hz
      refine L (r_mv Hz rfl) Hz rfl ?_
      clear Hz az; intro az Hz
      refine L (r_ia (k := k) (size := 3) Try.underlying22 Try.sizeOf27 Hz rfl rfl rfl hk18 hA22) Hz rfl ?_
      clear Hz az; intro az Hz
      refine L (r_ldA Try.isAgg27 Try.sizeOf27 Hz rfl (E23 _ o26) rfl) Hz rfl ?_
      clear Hz az; intro az Hz
      obtain ⟨A29, w30, hw, hA, r31, o32⟩ := Row.made (w := w25) KMsg (e := 27) ([m19] : List Msg) (by simp only [List.length_cons, List.length_nil]; unfold maxLen; omega)
      refine L (r_bs (z := .agg #[.int .i64 (0), .int .i64 (0), strV ([])]) (size := 3) (vs := [(0, .agg #[.int .i64 (m19.a), .int .i64 (m19.b), strV (m19.t)])]) (cs := List.flatMap KMsg.cells [m19]) Try.underlying22 Try.sizeOf27 zeroMsg rfl (Fr.evalps Hz rfl) (by kernel_rfl)) Hz rfl ?_
      rw [← hw, ← hA]; clear Hz az; intro az Hz
      clear hw hA
      have ok33 : ∀ zq ∈ ([m19] : List Msg), KMsg.ok zq := by intro zq hx; simp only [List.mem_cons, List.not_mem_nil, or_false] at hx; rcases hx with rfl <;> first | exact ok21
      have r34 := (ow_k (ow_k rO o26) o32)
      have h35 := Row.own KMsg r31 ok33
      have h36 := SliceOf.pl h35
      have hb44 : (List.length (O) + List.length ([m19])) * 32 ≤ 140737488355328 := by first | omega | (simp; omega)
      have O45 : Only NoF w w30 := (Only.trans' (Only.trans' o10 o26) o32)
      obtain ⟨A37, c38, w39, hr40, r41, o42, al43⟩ := Row.app (P := Try.prog) (l := O) (l2 := [m19]) KMsg elemMsg r34 h36 hb44 (by unfold maxLen; omega) (size_only O45)
      refine L (r_app hr40 Hz rfl rfl) Hz rfl ?_
      clear Hz az; intro az Hz
      have ok46 : ∀ zq ∈ (O ++ [m19]), KMsg.ok zq := (fun x hx => (List.mem_append.1 hx).elim (okO x) ((Row.oks KMsg h36) x))
      have h47 := Row.own KMsg r41 ok46
      refine L (r_as Hz rfl) Hz rfl ?_
      clear Hz az; intro az Hz
      refine hK16 _ _ ?_
      -- law.go:183
      refine wp_region_lit ?_
      refine L (r_mv Hz rfl) Hz rfl ?_
      clear Hz az; intro az Hz
      have i48 : I64 ((k : Int) + 1) := by unfold I64; omega
      refine L (r_addI (r := ((k : Int) + 1)) Hz rfl rfl rfl i48) Hz rfl ?_
      clear Hz az; intro az Hz
      refine L (r_as Hz rfl) Hz rfl ?_
      clear Hz az; intro az Hz
      have O49 : Only NoF w w39 := (o_sg O45 o42 (Nat.le_refl _) (ownF_ge rO))
      exact ⟨_, (by omega), k + 1, _, A37, c38, rfl, Hz.cut ⟨rfl, rfl, rfl, rfl, rfl, rfl, trivial⟩, (by omega), (by rw [hO]; exact (Lnk.own_step_in hm20 hc27)), O49, r41⟩
    · -- else1
      have q50 : Lnk.betw x y m19 = false := hc27
      refine wp_skip ?_
      refine hK16 _ _ ?_
      -- law.go:183
      refine wp_region_lit ?_
      refine L (r_mv Hz rfl) Hz rfl ?_
      clear Hz az; intro az Hz
      have i51 : I64 ((k : Int) + 1) := by unfold I64; omega
      refine L (r_addI (r := ((k : Int) + 1)) Hz rfl rfl rfl i51) Hz rfl ?_
      clear Hz az; intro az Hz
      refine L (r_as Hz rfl) Hz rfl ?_
      clear Hz az; intro az Hz
      have O52 : Only NoF w w25 := (Only.trans' o10 o26)
      have r53 := (ow_k rO o26)
      exact ⟨_, (by omega), k + 1, _, Ao, co, rfl, Hz.cut ⟨rfl, rfl, rfl, rfl, rfl, rfl, trivial⟩, (by omega), (by rw [hO]; exact (Lnk.own_step_out hm20 hc27)), O52, r53⟩
  · -- else0
    have p54 := of_decide_eq_false hc14
    refine wp_exit ?_
    refine th_exit ?_
    refine th_exit ?_
    refine ib_hit ?_
    refine hK7 _ _ ?_
    refine wp_seq_k fun K55 hK55 => ?_
    -- law.go:188
    refine wp_region_lit ?_
    refine L (r_mv Hz rfl) Hz rfl ?_
    clear Hz az; intro az Hz
    refine L (r_as Hz rfl) Hz rfl ?_
    clear Hz az; intro az Hz
    refine hK55 _ _ ?_
    refine wp_ret ?_
    show bodyPost _ _ _ .ret _ _
    refine ret_of (vs := [.slice Ao (O.length) co]) Hz Try.results31 ⟨rfl, trivial⟩ ?_
    obtain rfl : O = l.filter (Lnk.betw x y) := by rw [hO, List.take_of_length_le (by omega)]
    exact ⟨_, _, rfl, (ow_low rO (Nat.le_refl _)), okO, o10⟩

theorem own_v {w : World} {v : Value} {l : List Msg} (h : Msgs w v l) (x y : Int) (hl : l.length ≤ 1000000) : Calls Try.prog 31 #[v, .int .i64 x, .int .i64 y] w (OwnTo w (l.filter (Lnk.betw x y))) := by
  obtain ⟨A1, c1, rfl, _⟩ := SliceOf.shape h
  exact own_v_ h x y hl

set_option maxHeartbeats 4000000 in
theorem place_v_ {w : World} {l : List Msg} {A1 : Option Addr} {c1 : Nat} (f1 : Msgs w (.slice A1 l.length c1) l) (q : Nat) (hq : q ≤ l.length) (x y : Int) (hl : l.length ≤ 1000000) : Calls Try.prog 33 [.slice A1 l.length c1, .int .i64 (q : Int), .int .i64 x, .int .i64 y].toArray w (Fix (.int .i64 (((l.take q).filter (Lnk.betw x y)).length : Int)) w) := by
  refine calls_start Try.func33 rfl rfl ?_
  intro az Hz
  rw [Try.ntmps33] at Hz
  refine wp_seq_k fun K1 hK1 => ?_
  -- law.go:192
  refine wp_region_lit ?_
  refine L (r_as Hz rfl) Hz rfl ?_
  clear Hz az; intro az Hz
  refine hK1 _ _ ?_
  refine wp_seq_k fun K2 hK2 => ?_
  -- law.go:193
  refine wp_region_lit ?_
  refine L (r_mv Hz rfl) Hz rfl ?_
  clear Hz az; intro az Hz
  refine L (r_mv Hz rfl) Hz rfl ?_
  clear Hz az; intro az Hz
  have hl3 : 0 + q ≤ (l).length := by omega
  have hc4 : q ≤ c1 := Nat.le_trans (by omega) (SliceOf.cap_ f1)
  have h5 := SliceOf.sub (lo := 0) (m := q) f1 rfl hl3
  rw [List.drop_zero, Nat.sub_zero] at h5
  refine L (r_slh (m := q) (size := 3) Try.underlying22 Try.sizeOf27 Hz rfl rfl rfl hc4) Hz rfl ?_
  clear Hz az; intro az Hz
  refine L (r_mv Hz rfl) Hz rfl ?_
  clear Hz az; intro az Hz
  refine L (r_mv Hz rfl) Hz rfl ?_
  clear Hz az; intro az Hz
  refine LC Hz rfl rfl Try.call31 (own_v h5 x y (by rw [List.length_take]; omega)) rfl ?_
  rintro e w11 ⟨A6, c7, rfl, r8, k9, o10⟩; refine ⟨_, rfl, ?_⟩
  clear Hz az; intro az Hz
  refine L (r_lenL Try.underlying22 Hz rfl) Hz rfl ?_
  clear Hz az; intro az Hz
  refine L (r_as Hz rfl) Hz rfl ?_
  clear Hz az; intro az Hz
  refine hK2 _ _ ?_
  refine wp_ret ?_
  show bodyPost _ _ _ .ret _ _
  refine ret_of (vs := [.int .i64 ((((List.filter (Lnk.betw x y) ((l).take q)).length : Nat) : Int))]) Hz Try.results33 ⟨rfl, trivial⟩ ?_
  exact ⟨rfl, o10⟩

theorem place_v {w : World} {v : Value} {l : List Msg} (h : Msgs w v l) (q : Nat) (hq : q ≤ l.length) (x y : Int) (hl : l.length ≤ 1000000) : Calls Try.prog 33 #[v, .int .i64 (q : Int), .int .i64 x, .int .i64 y] w (Fix (.int .i64 (((l.take q).filter (Lnk.betw x y)).length : Int)) w) := by
  obtain ⟨A1, c1, rfl, _⟩ := SliceOf.shape h
  exact place_v_ h q hq x y hl
end Go.Proofs.Ytocbfobakmieoaa
