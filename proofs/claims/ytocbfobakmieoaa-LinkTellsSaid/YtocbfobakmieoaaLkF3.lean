/-
  The link's reference: Send, Double, Lose, Deliver, walked. Condition: at most 1,000,000 of each.
-/
import Derived.Test.YtocbfobakmieoaaLkF2
namespace Go.Proofs.Ytocbfobakmieoaa
set_option linter.unusedVariables false
set_option linter.unusedSimpArgs false
set_option linter.unusedSectionVars false
open Go.RowKit

theorem zeroMsg' (w : World) : (zeroValue 27).run Try.prog w = .ok (.agg #[.int .i64 0, .int .i64 0, strV []]) w := by kernel_rfl
theorem build_Msg0 (w : World) : (Instr.build 27 #[]).run Try.prog w = .ok (.agg #[.int .i64 0, .int .i64 0, strV []]) w := by kernel_rfl
theorem rcopied_all {w : World} {v : Value} {a : Air} (h : AirV w v a) (hf : Few_ a) : Calls Try.prog 38 #[v, .int .i64 (-1)] w (CopO w a) := by
  have := rcopied_v h hf (-1)
  have e : Lnk.dropI (-1) a.ms = a.ms := by unfold Lnk.dropI; rw [if_neg (by decide)]
  rwa [e] at this
namespace Lnk
theorem rs1 {a : Air} {m : Msg} (h : ((!right a) || (!rightM m)) = true) : send a m = (none_, 1) := by
  unfold send
  rw [if_pos]
  rcases or_t h with h | h
  · exact .inl (nt_t h)
  · exact .inr (nt_t h)
theorem rs0 {a : Air} {m : Msg} (h : ((!right a) || (!rightM m)) = false) : send a m = with_ a m := by
  unfold send
  have h1 := nt_f (or_f h).1
  have h2 := nt_f (or_f h).2
  rw [if_neg (by simp [h1, h2])]
theorem rs2 {a : Air} {m : Msg} (h : ((!right a) || (!rightM m)) = false) (h2 : decide ((1000 : Int) ≤ (a.ms.length : Int)) = true) : send a m = (none_, 6) := by
  rw [rs0 h]; unfold with_; rw [if_pos (by have := of_decide_eq_true h2; omega)]
theorem rs3 {a : Air} {m : Msg} (h : ((!right a) || (!rightM m)) = false) (h2 : decide ((1000 : Int) ≤ (a.ms.length : Int)) = false) : send a m = (⟨a.ms ++ [m], a.cs⟩, 0) := by
  rw [rs0 h]; unfold with_; rw [if_neg (by have := of_decide_eq_false h2; omega)]
theorem rd1 {a : Air} {i : Int} (h : (!right a) = true) : double a i = (none_, 1) := by
  have hb : bad a i = 1 := by unfold bad; rw [if_pos (nt_t h)]
  unfold double; rw [hb]; rfl
theorem bad4 {a : Air} {i : Int} (h : (!right a) = false) (h2 : (!(decide (0 ≤ i) && decide (i < (a.ms.length : Int)))) = true) : bad a i = 4 := by
  unfold bad
  rw [if_neg (by rw [nt_f h]; decide), if_pos]
  rcases and_f (nt_t h2) with h | h
  · have := of_decide_eq_false h; omega
  · have := of_decide_eq_false h; omega
theorem bad0 {a : Air} {i : Int} (h : (!right a) = false) (h2 : (!(decide (0 ≤ i) && decide (i < (a.ms.length : Int)))) = false) : bad a i = 0 := by
  unfold bad
  have h3 := and_t (nt_f h2)
  have h4 := of_decide_eq_true h3.1
  have h5 := of_decide_eq_true h3.2
  rw [if_neg (by rw [nt_f h]; decide), if_neg (by omega)]
theorem rd2 {a : Air} {i : Int} (h : (!right a) = false) (h2 : (!(decide (0 ≤ i) && decide (i < (a.ms.length : Int)))) = true) : double a i = (none_, 4) := by
  unfold double; rw [bad4 h h2]; rfl
theorem rd3 {a : Air} {i : Int} (h : (!right a) = false) (h2 : (!(decide (0 ≤ i) && decide (i < (a.ms.length : Int)))) = false) (h3 : decide ((1000 : Int) ≤ (a.ms.length : Int)) = true) : double a i = (none_, 6) := by
  unfold double; rw [bad0 h h2, if_neg (by decide)]; unfold with_; rw [if_pos (by have := of_decide_eq_true h3; omega)]
theorem msg_q {a : Air} {i : Int} {q : Nat} {y : Msg} (hm : a.ms[q]? = some y) (hq : i = (q : Int)) : msg a i = y := by
  obtain ⟨hk, rfl⟩ := List.getElem?_eq_some_iff.1 hm
  subst hq
  simp [msg, List.getD_eq_getElem?_getD, hk]
theorem rd4 {a : Air} {i : Int} {q : Nat} {y : Msg} (h : (!right a) = false) (h2 : (!(decide (0 ≤ i) && decide (i < (a.ms.length : Int)))) = false) (h3 : decide ((1000 : Int) ≤ (a.ms.length : Int)) = false) (hm : a.ms[q]? = some y) (hq : i = (q : Int)) :
    double a i = (⟨a.ms ++ [y], a.cs⟩, 0) := by
  unfold double; rw [bad0 h h2, if_neg (by decide), msg_q hm hq]; unfold with_; rw [if_neg (by have := of_decide_eq_false h3; omega)]
theorem rl1 {a : Air} {i : Int} (h : (!right a) = true) : lose a i = (none_, 1) := by
  have hb : bad a i = 1 := by unfold bad; rw [if_pos (nt_t h)]
  unfold lose; rw [hb]; rfl
theorem rl2 {a : Air} {i : Int} (h : (!right a) = false) (h2 : (!(decide (0 ≤ i) && decide (i < (a.ms.length : Int)))) = true) : lose a i = (none_, 4) := by
  unfold lose; rw [bad4 h h2]; rfl
theorem rl3 {a : Air} {i : Int} (h : (!right a) = false) (h2 : (!(decide (0 ≤ i) && decide (i < (a.ms.length : Int)))) = false) : lose a i = (⟨dropI i a.ms, a.cs⟩, 0) := by
  unfold lose; rw [bad0 h h2, if_neg (by decide)]
  unfold without dropI
  rw [if_pos (of_decide_eq_true (and_t (nt_f h2)).1)]
theorem lose_bad (a : Air) (i : Int) : (lose a i).2 = bad a i := by
  unfold lose
  split
  · rfl
  · rename_i h; simp only [Classical.not_not] at h; rw [h]
theorem rv0 {a : Air} {i : Int} (h : (!decide ((lose a i).2 = 0)) = false) : 0 ≤ i ∧ i < a.ms.length := by
  have := of_decide_eq_true (nt_f h)
  rw [lose_bad] at this
  exact (bad_zero this).2
theorem rv1 {a : Air} {i : Int} (h : (!decide ((lose a i).2 = 0)) = true) : deliver a i = (none_, noM, (lose a i).2) := by
  have := of_decide_eq_false (nt_t h)
  rw [lose_bad] at this ⊢
  unfold deliver
  rw [if_pos this]
theorem rv2 {a : Air} {i : Int} {q : Nat} {y : Msg} (h : (!decide ((lose a i).2 = 0)) = false) (hm : a.ms[q]? = some y) (hq : i = (q : Int)) (hc : isCut a y.a y.b = true) : deliver a i = (none_, noM, 7) := by
  have := of_decide_eq_true (nt_f h)
  rw [lose_bad] at this
  unfold deliver
  rw [if_neg (by omega), msg_q hm hq, if_pos hc]
theorem rv3 {a : Air} {i : Int} {q : Nat} {y : Msg} (h : (!decide ((lose a i).2 = 0)) = false) (hm : a.ms[q]? = some y) (hq : i = (q : Int)) (hc : isCut a y.a y.b = false) : deliver a i = ((lose a i).1, y, 0) := by
  have := of_decide_eq_true (nt_f h)
  rw [lose_bad] at this
  unfold deliver lose
  rw [this, if_neg (by decide), msg_q hm hq, if_neg (by simp [hc]), if_neg (by decide)]
end Lnk
set_option maxHeartbeats 4000000 in
theorem rSend_v_ {w : World} {a : Air} {A1 A2 : Option Addr} {c1 c2 : Nat} (f1 : Msgs w (.slice A1 a.ms.length c1) a.ms) (f2 : Prs w (.slice A2 a.cs.length c2) a.cs) (hf : a.ms.length ≤ 1000000 ∧ a.cs.length ≤ 1000000) {m : Msg} (hm : MsgOk m) : Calls Try.prog 12 #[.agg #[.slice A1 a.ms.length c1, .slice A2 a.cs.length c2], .agg #[.int .i64 m.a, .int .i64 m.b, strV m.t]] w (AirO w (Lnk.send a m)) := by
  have hb1 := Nat.le_trans (SliceOf.cap_ f1) (SliceOf.lens f1).2
  have hb2 := Nat.le_trans (SliceOf.cap_ f2) (SliceOf.lens f2).2
  refine calls_start Try.func12 rfl rfl ?_
  intro az Hz
  rw [Try.ntmps12] at Hz
  refine wp_seq_k fun K1 hK1 => ?_
  -- ref.go:62
  refine wp_region_lit ?_
  refine LBox Hz rfl rfl rfl ?_
  clear Hz az; intro g2 w3 hg6 hl7 o4 B5 az Hz
  refine LBox Hz rfl rfl rfl ?_
  clear Hz az; intro g8 w9 hg12 hl13 o10 B11 az Hz
  refine LAl (v := .agg #[.slice none (0) 0, .slice none (0) 0]) zeroAir Hz rfl rfl ?_
  clear Hz az; intro g14 w15 hg18 hl19 o16 B17 az Hz
  refine L (r_as Hz rfl) Hz rfl ?_
  clear Hz az; intro az Hz
  refine hK1 _ _ ?_
  refine wp_seq_k fun K20 hK20 => ?_
  refine wp_seq_k fun K21 hK21 => ?_
  -- ref.go:63
  refine wp_region_lit ?_
  have B22 := (Blk.k (Blk.k B5 o10) o16)
  refine L (r_ldA Try.isAgg25 Try.sizeOf25 Hz rfl (Blk.ca B22) rfl) Hz rfl ?_
  clear Hz az; intro az Hz
  have O23 : Only NoF w w15 := (Only.trans' (Only.trans' o4 o10) o16)
  have h24 := (SliceOf.kp f1 O23 (fun _ _ h => h) (fun _ _ _ _ h => h))
  have h25 := (SliceOf.kp f2 O23 (fun _ _ h => h) (fun _ _ _ _ h => h))
  refine LCV (v := .bool (Lnk.right a)) Hz rfl rfl Try.call29 (rRight_v (show AirV _ _ a from ⟨_, _, rfl, h24, h25⟩)) rfl fun w26 o27 => ?_
  clear Hz az; intro az Hz
  refine L (r_not Hz rfl) Hz rfl ?_
  clear Hz az; intro az Hz
  refine L (r_mv Hz rfl) Hz rfl ?_
  clear Hz az; intro az Hz
  have B28 := (Blk.k (Blk.k B11 o16) o27)
  refine LG Hz rfl rfl gd_f (fun hb => r_ldA Try.isAgg27 Try.sizeOf27 Hz rfl (Blk.ca B28) rfl) rfl ?_
  clear Hz az; intro az Hz
  refine LGV (v := .bool (Lnk.rightM m)) Hz rfl rfl gd_f rfl (fun hb => (evs_c (evg hb rfl) rfl)) Try.call37 (fun hb => rmessage_v _ m) rfl fun w29 o30 => ?_
  clear Hz az; intro az Hz
  refine LG Hz rfl rfl gd_f (fun hb => r_not Hz (evg hb rfl)) rfl ?_
  clear Hz az; intro az Hz
  refine L (r_or Hz rfl rfl rfl) Hz rfl ?_
  clear Hz az; intro az Hz
  refine hK21 _ _ ?_
  refine br Hz rfl (fun hc31 => ?_) (fun hc31 => ?_)
  · -- if0
    have d32 := hc31
    refine wp_seq_k fun K33 hK33 => ?_
    -- ref.go:64
    refine wp_region_lit ?_
    refine L (r_bd (v := .agg #[.slice none (0) 0, .slice none (0) 0]) build_Air0 Hz rfl) Hz rfl ?_
    clear Hz az; intro az Hz
    have B34 := (Blk.k (Blk.k B17 o27) o30)
    refine LSt (cs' := [.slice none (0) 0, .slice none (0) 0]) Try.sizeOf25 Hz rfl rfl rfl rfl rfl ⟨rfl, rfl, trivial⟩ B34 rfl rfl fun w35 s36 B37 => ?_
    refine L (r_as Hz rfl) Hz rfl ?_
    clear Hz az; intro az Hz
    refine hK33 _ _ ?_
    refine wp_ret ?_
    show bodyPost _ _ _ .ret _ _
    refine ret_of (vs := [.agg #[.slice none (0) 0, .slice none (0) 0], .int .i64 (1)]) Hz Try.results12 ⟨⟨_, rfl, l_ca Try.isAgg25 Try.sizeOf25 (Blk.ca B37) rfl⟩, rfl, trivial⟩ ?_
    rw [Lnk.rs1 hc31]
    have O38 : Only NoF w w9 := (Only.trans' o4 o10)
    have O39 : Only NoF w w35 := (o_sg (Only.trans' (Only.trans' O23 o27) o30) s36 (size_only O38) (oneF_ge hg18))
    exact ⟨_, _, _, _, rfl, (World.ownsRow_nil _ _ _ _), (World.ownsRow_nil _ _ _ _), (fun x hx => by cases hx), (fun x hx => by cases hx), O39⟩
  · -- else0
    have q40 : Lnk.right a = true := (nt_f (or_f hc31).1)
    have q41 : Lnk.rightM m = true := (nt_f (or_f hc31).2)
    refine wp_skip ?_
    refine hK20 _ _ ?_
    refine wp_seq_k fun K42 hK42 => ?_
    refine wp_seq_k fun K43 hK43 => ?_
    -- ref.go:66
    refine wp_region_lit ?_
    refine L (r_fa (m' := 0) Try.underlying25 rfl Try.sizeOf22 rfl Hz rfl rfl) Hz rfl ?_
    clear Hz az; intro az Hz
    have B44 := (Blk.k (Blk.k B22 o27) o30)
    refine L (r_ld Try.isAgg22 Hz rfl ((Blk.ca B44) 0 _ rfl)) Hz rfl ?_
    clear Hz az; intro az Hz
    refine L (r_lenL Try.underlying22 Hz rfl) Hz rfl ?_
    clear Hz az; intro az Hz
    refine L (r_geI Hz rfl rfl) Hz rfl ?_
    clear Hz az; intro az Hz
    refine hK43 _ _ ?_
    refine br Hz rfl (fun hc45 => ?_) (fun hc45 => ?_)
    · -- if1
      have p46 := of_decide_eq_true hc45
      refine wp_seq_k fun K47 hK47 => ?_
      -- ref.go:67
      refine wp_region_lit ?_
      refine L (r_bd (v := .agg #[.slice none (0) 0, .slice none (0) 0]) build_Air0 Hz rfl) Hz rfl ?_
      clear Hz az; intro az Hz
      have B48 := (Blk.k (Blk.k B17 o27) o30)
      refine LSt (cs' := [.slice none (0) 0, .slice none (0) 0]) Try.sizeOf25 Hz rfl rfl rfl rfl rfl ⟨rfl, rfl, trivial⟩ B48 rfl rfl fun w49 s50 B51 => ?_
      refine L (r_as Hz rfl) Hz rfl ?_
      clear Hz az; intro az Hz
      refine hK47 _ _ ?_
      refine wp_ret ?_
      show bodyPost _ _ _ .ret _ _
      refine ret_of (vs := [.agg #[.slice none (0) 0, .slice none (0) 0], .int .i64 (6)]) Hz Try.results12 ⟨⟨_, rfl, l_ca Try.isAgg25 Try.sizeOf25 (Blk.ca B51) rfl⟩, rfl, trivial⟩ ?_
      rw [Lnk.rs2 hc31 hc45]
      have O52 : Only NoF w w9 := (Only.trans' o4 o10)
      have O53 : Only NoF w w49 := (o_sg (Only.trans' (Only.trans' O23 o27) o30) s50 (size_only O52) (oneF_ge hg18))
      exact ⟨_, _, _, _, rfl, (World.ownsRow_nil _ _ _ _), (World.ownsRow_nil _ _ _ _), (fun x hx => by cases hx), (fun x hx => by cases hx), O53⟩
    · -- else1
      have p54 := of_decide_eq_false hc45
      refine wp_skip ?_
      refine hK42 _ _ ?_
      refine wp_seq_k fun K55 hK55 => ?_
      -- ref.go:69
      refine wp_region_lit ?_
      refine L (r_ldA Try.isAgg25 Try.sizeOf25 Hz rfl (Blk.ca B44) rfl) Hz rfl ?_
      clear Hz az; intro az Hz
      have O56 : Only NoF w w29 := (Only.trans' (Only.trans' O23 o27) o30)
      have h57 := (SliceOf.kp f1 O56 (fun _ _ h => h) (fun _ _ _ _ h => h))
      have h58 := (SliceOf.kp f2 O56 (fun _ _ h => h) (fun _ _ _ _ h => h))
      refine LC Hz rfl rfl Try.call38 (rcopied_all (show AirV _ _ a from ⟨_, _, rfl, h57, h58⟩) hf) rfl ?_
      rintro e w68 ⟨A59, c61, A60, c62, rfl, r63, r64, k65, k66, o67⟩; refine ⟨_, rfl, ?_⟩
      clear Hz az; intro az Hz
      refine LAl (v := .agg #[.slice none (0) 0, .slice none (0) 0]) zeroAir Hz rfl rfl ?_
      clear Hz az; intro g69 w70 hg73 hl74 o71 B72 az Hz
      refine LSt (cs' := [.slice A59 (a.ms.length) c61, .slice A60 (a.cs.length) c62]) Try.sizeOf25 Hz rfl rfl rfl rfl rfl ⟨rfl, rfl, trivial⟩ B72 rfl rfl fun w75 s76 B77 => ?_
      refine hK55 _ _ ?_
      refine wp_seq_k fun K78 hK78 => ?_
      -- ref.go:70
      refine wp_region_lit ?_
      refine L (r_fa (m' := 0) Try.underlying25 rfl Try.sizeOf22 rfl Hz rfl rfl) Hz rfl ?_
      clear Hz az; intro az Hz
      refine L (r_ld Try.isAgg22 Hz rfl ((Blk.ca B77) 0 _ rfl)) Hz rfl ?_
      clear Hz az; intro az Hz
      have O80 : Only NoF w9 w68 := (Only.trans' (Only.trans' (Only.trans' o16 o27) o30) o67)
      have ne79 : g8 ≠ g69 := (ne_of hl13 (Nat.le_trans (size_only O80) hg73))
      have B81 := (Blk.st (Blk.k (Blk.k (Blk.k B28 o30) o67) o71) s76 ne79)
      refine L (r_ldA Try.isAgg27 Try.sizeOf27 Hz rfl (Blk.ca B81) rfl) Hz rfl ?_
      clear Hz az; intro az Hz
      obtain ⟨A82, w83, hw, hA, r84, o85⟩ := Row.made (w := w75) KMsg (e := 27) ([m] : List Msg) (by simp only [List.length_cons, List.length_nil]; unfold maxLen; omega)
      refine L (r_bs (z := .agg #[.int .i64 (0), .int .i64 (0), strV ([])]) (size := 3) (vs := [(0, .agg #[.int .i64 (m.a), .int .i64 (m.b), strV (m.t)])]) (cs := List.flatMap KMsg.cells [m]) Try.underlying22 Try.sizeOf27 zeroMsg rfl (Fr.evalps Hz rfl) (by kernel_rfl)) Hz rfl ?_
      rw [← hw, ← hA]; clear Hz az; intro az Hz
      clear hw hA
      have ok86 : ∀ zq ∈ ([m] : List Msg), KMsg.ok zq := by intro zq hx; simp only [List.mem_cons, List.not_mem_nil, or_false] at hx; rcases hx with rfl <;> first | exact hm
      have r87 := (ow_k (ow_only (ow_k r63 o71) s76 (fun k hk => lt_F (oneF_ge hg73) (Nat.le_refl _) k (ownF_lt r63 k hk))) o85)
      have h88 := Row.own KMsg r84 ok86
      have h89 := SliceOf.pl h88
      have hb97 : (List.length (a.ms) + List.length ([m])) * 32 ≤ 140737488355328 := by first | omega | (simp; omega)
      have O98 : Only NoF w29 w83 := (Only.trans' (o_sg (Only.trans' o67 o71) s76 (size_only o67) (oneF_ge hg73)) o85)
      obtain ⟨A90, c91, w92, hr93, r94, o95, al96⟩ := Row.app (P := Try.prog) (l := a.ms) (l2 := [m]) KMsg elemMsg r87 h89 hb97 (by unfold maxLen; omega) (size_only O98)
      refine L (r_app hr93 Hz rfl rfl) Hz rfl ?_
      clear Hz az; intro az Hz
      have ok99 : ∀ zq ∈ (a.ms ++ [m]), KMsg.ok zq := (fun x hx => (List.mem_append.1 hx).elim (k65 x) ((Row.oks KMsg h89) x))
      have h100 := Row.own KMsg r94 ok99
      refine L (r_fa (m' := 0) Try.underlying25 rfl Try.sizeOf22 rfl Hz rfl rfl) Hz rfl ?_
      clear Hz az; intro az Hz
      have B101 := (Blk.only (Blk.k B77 o85) o95 (ow_nb r87 (Blk.k B77 o85) (by decide)))
      refine LSt (cs' := [.slice A90 (((a.ms ++ [m])).length) c91, .slice A60 (a.cs.length) c62]) Try.sizeOf22 Hz rfl rfl rfl rfl rfl ⟨rfl, trivial⟩ B101 rfl rfl fun w102 s103 B104 => ?_
      refine hK78 _ _ ?_
      refine wp_seq_k fun K105 hK105 => ?_
      -- ref.go:71
      refine wp_region_lit ?_
      refine L (r_ldA Try.isAgg25 Try.sizeOf25 Hz rfl (Blk.ca B104) rfl) Hz rfl ?_
      clear Hz az; intro az Hz
      have O107 : Only NoF w15 w68 := (Only.trans' (Only.trans' o27 o30) o67)
      have ne106 : g14 ≠ g69 := (ne_of hl19 (Nat.le_trans (size_only O107) hg73))
      have B108 := (Blk.st (Blk.only (Blk.k (Blk.st (Blk.k (Blk.k (Blk.k (Blk.k B17 o27) o30) o67) o71) s76 ne106) o85) o95 (ow_nb r87 (Blk.k (Blk.st (Blk.k (Blk.k (Blk.k (Blk.k B17 o27) o30) o67) o71) s76 ne106) o85) (by decide))) s103 ne106)
      refine LSt (cs' := [.slice A90 (((a.ms ++ [m])).length) c91, .slice A60 (a.cs.length) c62]) Try.sizeOf25 Hz rfl rfl rfl rfl rfl ⟨rfl, rfl, trivial⟩ B108 rfl rfl fun w109 s110 B111 => ?_
      refine L (r_as Hz rfl) Hz rfl ?_
      clear Hz az; intro az Hz
      refine hK105 _ _ ?_
      refine wp_ret ?_
      show bodyPost _ _ _ .ret _ _
      refine ret_of (vs := [.agg #[.slice A90 (((a.ms ++ [m])).length) c91, .slice A60 (a.cs.length) c62], .int .i64 (0)]) Hz Try.results12 ⟨⟨_, rfl, l_ca Try.isAgg25 Try.sizeOf25 (Blk.ca B111) rfl⟩, rfl, trivial⟩ ?_
      have O112 : Only NoF w15 w29 := (Only.trans' o27 o30)
      have r113 := (ow_only (ow_only r94 s103 (fun k hk hF => ow_nb r94 B101 (by decide) (by rw [show k = g69 from hF] at hk; exact hk))) s110 (fun k hk => ge_F (oneF_lt hl19) (size_only O112) k (ownF_ge (ow_only r94 s103 (fun k hk hF => ow_nb r94 B101 (by decide) (by rw [show k = g69 from hF] at hk; exact hk))) k hk)))
      have r114 := (ow_only (ow_only (ow_only (ow_k (ow_only (ow_k r64 o71) s76 (fun k hk => lt_F (oneF_ge hg73) (Nat.le_refl _) k (ownF_lt r64 k hk))) o85) o95 (ow_ne (ow_k (ow_only (ow_k r64 o71) s76 (fun k hk => lt_F (oneF_ge hg73) (Nat.le_refl _) k (ownF_lt r64 k hk))) o85) r87 (by decide))) s103 (fun k hk => lt_F (oneF_ge hg73) (Nat.le_refl _) k (ownF_lt r64 k hk))) s110 (fun k hk => ge_F (oneF_lt hl19) (size_only O112) k (ownF_ge (ow_only (ow_only (ow_k (ow_only (ow_k r64 o71) s76 (fun k hk => lt_F (oneF_ge hg73) (Nat.le_refl _) k (ownF_lt r64 k hk))) o85) o95 (ow_ne (ow_k (ow_only (ow_k r64 o71) s76 (fun k hk => lt_F (oneF_ge hg73) (Nat.le_refl _) k (ownF_lt r64 k hk))) o85) r87 (by decide))) s103 (fun k hk => lt_F (oneF_ge hg73) (Nat.le_refl _) k (ownF_lt r64 k hk))) k hk)))
      rw [Lnk.rs3 hc31 hc45]
      have O115 : Only NoF w w68 := (Only.trans' O56 o67)
      have O116 : Only NoF w w9 := (Only.trans' o4 o10)
      have O117 : Only NoF w w109 := (o_sg (o_sg (o_sg (Only.trans' (o_sg (Only.trans' (Only.trans' O56 o67) o71) s76 (size_only O115) (oneF_ge hg73)) o85) o95 (size_only O56) (ownF_ge r63)) s103 (size_only O115) (oneF_ge hg73)) s110 (size_only O116) (oneF_ge hg18))
      exact ⟨_, _, _, _, rfl, (ow_low r113 (size_only O56)), (ow_low r114 (size_only O56)), ok99, k66, O117⟩

theorem rSend_v {w : World} {v : Value} {a : Air} (h : AirV w v a) (hf : Few_ a) {m : Msg} (hm : MsgOk m) : Calls Try.prog 12 #[v, .agg #[.int .i64 m.a, .int .i64 m.b, strV m.t]] w (AirO w (Lnk.send a m)) := by
  obtain ⟨v1, v2, rfl, f1, f2⟩ := h
  obtain ⟨A1, c1, rfl, _⟩ := SliceOf.shape f1
  obtain ⟨A2, c2, rfl, _⟩ := SliceOf.shape f2
  exact rSend_v_ f1 f2 hf hm

set_option maxHeartbeats 4000000 in
theorem rDouble_v_ {w : World} {a : Air} {A1 A2 : Option Addr} {c1 c2 : Nat} (f1 : Msgs w (.slice A1 a.ms.length c1) a.ms) (f2 : Prs w (.slice A2 a.cs.length c2) a.cs) (hf : a.ms.length ≤ 1000000 ∧ a.cs.length ≤ 1000000) (i : Int) : Calls Try.prog 15 #[.agg #[.slice A1 a.ms.length c1, .slice A2 a.cs.length c2], .int .i64 i] w (AirO w (Lnk.double a i)) := by
  have hb1 := Nat.le_trans (SliceOf.cap_ f1) (SliceOf.lens f1).2
  have hb2 := Nat.le_trans (SliceOf.cap_ f2) (SliceOf.lens f2).2
  refine calls_start Try.func15 rfl rfl ?_
  intro az Hz
  rw [Try.ntmps15] at Hz
  refine wp_seq_k fun K1 hK1 => ?_
  -- ref.go:75
  refine wp_region_lit ?_
  refine LBox Hz rfl rfl rfl ?_
  clear Hz az; intro g2 w3 hg6 hl7 o4 B5 az Hz
  refine LAl (v := .agg #[.slice none (0) 0, .slice none (0) 0]) zeroAir Hz rfl rfl ?_
  clear Hz az; intro g8 w9 hg12 hl13 o10 B11 az Hz
  refine L (r_as Hz rfl) Hz rfl ?_
  clear Hz az; intro az Hz
  refine hK1 _ _ ?_
  refine wp_seq_k fun K14 hK14 => ?_
  refine wp_seq_k fun K15 hK15 => ?_
  -- ref.go:76
  refine wp_region_lit ?_
  have B16 := (Blk.k B5 o10)
  refine L (r_ldA Try.isAgg25 Try.sizeOf25 Hz rfl (Blk.ca B16) rfl) Hz rfl ?_
  clear Hz az; intro az Hz
  have O17 : Only NoF w w9 := (Only.trans' o4 o10)
  have h18 := (SliceOf.kp f1 O17 (fun _ _ h => h) (fun _ _ _ _ h => h))
  have h19 := (SliceOf.kp f2 O17 (fun _ _ h => h) (fun _ _ _ _ h => h))
  refine LCV (v := .bool (Lnk.right a)) Hz rfl rfl Try.call29 (rRight_v (show AirV _ _ a from ⟨_, _, rfl, h18, h19⟩)) rfl fun w20 o21 => ?_
  clear Hz az; intro az Hz
  refine L (r_not Hz rfl) Hz rfl ?_
  clear Hz az; intro az Hz
  refine hK15 _ _ ?_
  refine br Hz rfl (fun hc22 => ?_) (fun hc22 => ?_)
  · -- if0
    have q23 : Lnk.right a = false := (nt_t hc22)
    refine wp_seq_k fun K24 hK24 => ?_
    -- ref.go:77
    refine wp_region_lit ?_
    refine L (r_bd (v := .agg #[.slice none (0) 0, .slice none (0) 0]) build_Air0 Hz rfl) Hz rfl ?_
    clear Hz az; intro az Hz
    have B25 := (Blk.k B11 o21)
    refine LSt (cs' := [.slice none (0) 0, .slice none (0) 0]) Try.sizeOf25 Hz rfl rfl rfl rfl rfl ⟨rfl, rfl, trivial⟩ B25 rfl rfl fun w26 s27 B28 => ?_
    refine L (r_as Hz rfl) Hz rfl ?_
    clear Hz az; intro az Hz
    refine hK24 _ _ ?_
    refine wp_ret ?_
    show bodyPost _ _ _ .ret _ _
    refine ret_of (vs := [.agg #[.slice none (0) 0, .slice none (0) 0], .int .i64 (1)]) Hz Try.results15 ⟨⟨_, rfl, l_ca Try.isAgg25 Try.sizeOf25 (Blk.ca B28) rfl⟩, rfl, trivial⟩ ?_
    rw [Lnk.rd1 hc22]
    have O29 : Only NoF w w26 := (o_sg (Only.trans' O17 o21) s27 (size_only o4) (oneF_ge hg12))
    exact ⟨_, _, _, _, rfl, (World.ownsRow_nil _ _ _ _), (World.ownsRow_nil _ _ _ _), (fun x hx => by cases hx), (fun x hx => by cases hx), O29⟩
  · -- else0
    have q30 : Lnk.right a = true := (nt_f hc22)
    refine wp_skip ?_
    refine hK14 _ _ ?_
    refine wp_seq_k fun K31 hK31 => ?_
    refine wp_seq_k fun K32 hK32 => ?_
    -- ref.go:79
    refine wp_region_lit ?_
    have B33 := (Blk.k B16 o21)
    refine L (r_ldA Try.isAgg25 Try.sizeOf25 Hz rfl (Blk.ca B33) rfl) Hz rfl ?_
    clear Hz az; intro az Hz
    refine L (r_mv Hz rfl) Hz rfl ?_
    clear Hz az; intro az Hz
    have O34 : Only NoF w w20 := (Only.trans' O17 o21)
    have h35 := (SliceOf.kp f1 O34 (fun _ _ h => h) (fun _ _ _ _ h => h))
    have h36 := (SliceOf.kp f2 O34 (fun _ _ h => h) (fun _ _ _ _ h => h))
    refine LCV (v := .bool (((decide (0 ≤ i)) && (decide (i < ((a.ms.length : Nat) : Int)))))) Hz rfl rfl Try.call40 (ris_v (show AirV _ _ a from ⟨_, _, rfl, h35, h36⟩) i) rfl fun w37 o38 => ?_
    clear Hz az; intro az Hz
    refine L (r_not Hz rfl) Hz rfl ?_
    clear Hz az; intro az Hz
    refine hK32 _ _ ?_
    refine br Hz rfl (fun hc39 => ?_) (fun hc39 => ?_)
    · -- if1
      have d40 := (nt_t hc39)
      refine wp_seq_k fun K41 hK41 => ?_
      -- ref.go:80
      refine wp_region_lit ?_
      refine L (r_bd (v := .agg #[.slice none (0) 0, .slice none (0) 0]) build_Air0 Hz rfl) Hz rfl ?_
      clear Hz az; intro az Hz
      have B42 := (Blk.k (Blk.k B11 o21) o38)
      refine LSt (cs' := [.slice none (0) 0, .slice none (0) 0]) Try.sizeOf25 Hz rfl rfl rfl rfl rfl ⟨rfl, rfl, trivial⟩ B42 rfl rfl fun w43 s44 B45 => ?_
      refine L (r_as Hz rfl) Hz rfl ?_
      clear Hz az; intro az Hz
      refine hK41 _ _ ?_
      refine wp_ret ?_
      show bodyPost _ _ _ .ret _ _
      refine ret_of (vs := [.agg #[.slice none (0) 0, .slice none (0) 0], .int .i64 (4)]) Hz Try.results15 ⟨⟨_, rfl, l_ca Try.isAgg25 Try.sizeOf25 (Blk.ca B45) rfl⟩, rfl, trivial⟩ ?_
      rw [Lnk.rd2 hc22 hc39]
      have O46 : Only NoF w w43 := (o_sg (Only.trans' O34 o38) s44 (size_only o4) (oneF_ge hg12))
      exact ⟨_, _, _, _, rfl, (World.ownsRow_nil _ _ _ _), (World.ownsRow_nil _ _ _ _), (fun x hx => by cases hx), (fun x hx => by cases hx), O46⟩
    · -- else1
      have p47 := of_decide_eq_true (and_t (nt_f hc39)).1
      have p48 := of_decide_eq_true (and_t (nt_f hc39)).2
      refine wp_skip ?_
      refine hK31 _ _ ?_
      refine wp_seq_k fun K49 hK49 => ?_
      refine wp_seq_k fun K50 hK50 => ?_
      -- ref.go:82
      refine wp_region_lit ?_
      refine L (r_fa (m' := 0) Try.underlying25 rfl Try.sizeOf22 rfl Hz rfl rfl) Hz rfl ?_
      clear Hz az; intro az Hz
      have B51 := (Blk.k B33 o38)
      refine L (r_ld Try.isAgg22 Hz rfl ((Blk.ca B51) 0 _ rfl)) Hz rfl ?_
      clear Hz az; intro az Hz
      refine L (r_lenL Try.underlying22 Hz rfl) Hz rfl ?_
      clear Hz az; intro az Hz
      refine L (r_geI Hz rfl rfl) Hz rfl ?_
      clear Hz az; intro az Hz
      refine hK50 _ _ ?_
      refine br Hz rfl (fun hc52 => ?_) (fun hc52 => ?_)
      · -- if2
        have p53 := of_decide_eq_true hc52
        refine wp_seq_k fun K54 hK54 => ?_
        -- ref.go:83
        refine wp_region_lit ?_
        refine L (r_bd (v := .agg #[.slice none (0) 0, .slice none (0) 0]) build_Air0 Hz rfl) Hz rfl ?_
        clear Hz az; intro az Hz
        have B55 := (Blk.k (Blk.k B11 o21) o38)
        refine LSt (cs' := [.slice none (0) 0, .slice none (0) 0]) Try.sizeOf25 Hz rfl rfl rfl rfl rfl ⟨rfl, rfl, trivial⟩ B55 rfl rfl fun w56 s57 B58 => ?_
        refine L (r_as Hz rfl) Hz rfl ?_
        clear Hz az; intro az Hz
        refine hK54 _ _ ?_
        refine wp_ret ?_
        show bodyPost _ _ _ .ret _ _
        refine ret_of (vs := [.agg #[.slice none (0) 0, .slice none (0) 0], .int .i64 (6)]) Hz Try.results15 ⟨⟨_, rfl, l_ca Try.isAgg25 Try.sizeOf25 (Blk.ca B58) rfl⟩, rfl, trivial⟩ ?_
        rw [Lnk.rd3 hc22 hc39 hc52]
        have O59 : Only NoF w w56 := (o_sg (Only.trans' O34 o38) s57 (size_only o4) (oneF_ge hg12))
        exact ⟨_, _, _, _, rfl, (World.ownsRow_nil _ _ _ _), (World.ownsRow_nil _ _ _ _), (fun x hx => by cases hx), (fun x hx => by cases hx), O59⟩
      · -- else2
        have p60 := of_decide_eq_false hc52
        refine wp_skip ?_
        refine hK49 _ _ ?_
        refine wp_seq_k fun K61 hK61 => ?_
        -- ref.go:85
        refine wp_region_lit ?_
        refine L (r_ldA Try.isAgg25 Try.sizeOf25 Hz rfl (Blk.ca B51) rfl) Hz rfl ?_
        clear Hz az; intro az Hz
        have O62 : Only NoF w w37 := (Only.trans' O34 o38)
        have h63 := (SliceOf.kp f1 O62 (fun _ _ h => h) (fun _ _ _ _ h => h))
        have h64 := (SliceOf.kp f2 O62 (fun _ _ h => h) (fun _ _ _ _ h => h))
        refine LC Hz rfl rfl Try.call38 (rcopied_all (show AirV _ _ a from ⟨_, _, rfl, h63, h64⟩) hf) rfl ?_
        rintro e w74 ⟨A65, c67, A66, c68, rfl, r69, r70, k71, k72, o73⟩; refine ⟨_, rfl, ?_⟩
        clear Hz az; intro az Hz
        refine LAl (v := .agg #[.slice none (0) 0, .slice none (0) 0]) zeroAir Hz rfl rfl ?_
        clear Hz az; intro g75 w76 hg79 hl80 o77 B78 az Hz
        refine LSt (cs' := [.slice A65 (a.ms.length) c67, .slice A66 (a.cs.length) c68]) Try.sizeOf25 Hz rfl rfl rfl rfl rfl ⟨rfl, rfl, trivial⟩ B78 rfl rfl fun w81 s82 B83 => ?_
        refine hK61 _ _ ?_
        refine wp_seq_k fun K84 hK84 => ?_
        -- ref.go:86
        refine reg_m (orF (ownF (.slice A65 (a.ms.length) c67)) (oneF g75)) 1 [7, 8, 10] [(true, 0), (true, 1), (true, 2), (true, 3), (true, 4), (true, 5), (true, 6), (false, 7), (false, 8), (true, 9), (false, 10)] (by kernel_rfl) (by kernel_rfl) (fun _ _ _ _ _ h => h) fun w85 o86 => ?_
        have B87 := (Blk.k B83 o86)
        have O89 : Only NoF w3 w74 := (Only.trans' (Only.trans' (Only.trans' o10 o21) o38) o73)
        have ne88 : g2 ≠ g75 := (ne_of hl7 (Nat.le_trans (size_only O89) hg79))
        have B90 := (Blk.k (Blk.st (Blk.k (Blk.k B51 o73) o77) s82 ne88) o86)
        refine MSP (b := false) (by kernel_rfl) (fun W oW => r_fa (m' := 0) Try.underlying25 rfl Try.sizeOf22 rfl Hz rfl rfl) Hz rfl rfl ?_
        clear Hz az; intro az Hz
        refine MSP (b := true) (by kernel_rfl) (fun W oW => r_ld Try.isAgg22 Hz rfl ((Blk.ca (Blk.k B87 oW)) 0 _ rfl)) Hz rfl rfl ?_
        clear Hz az; intro az Hz
        refine MSP (b := false) (by kernel_rfl) (fun W oW => r_fa (m' := 0) Try.underlying25 rfl Try.sizeOf22 rfl Hz rfl rfl) Hz rfl rfl ?_
        clear Hz az; intro az Hz
        have r91 := (ow_k (ow_only (ow_k r69 o77) s82 (fun k hk => lt_F (oneF_ge hg79) (Nat.le_refl _) k (ownF_lt r69 k hk))) o86)
        refine MSP (b := false) (by kernel_rfl) (fun W oW => r_ld Try.isAgg22 Hz rfl ((Blk.ca (Blk.only B90 oW (fun h => h.elim (ow_nb r91 B90 (by decide)) ne88))) 0 _ rfl)) Hz rfl rfl ?_
        clear Hz az; intro az Hz
        refine MSP (b := false) (by kernel_rfl) (fun W oW => r_mv Hz rfl) Hz rfl rfl ?_
        clear Hz az; intro az Hz
        have O92 : Only NoF w w74 := (Only.trans' O62 o73)
        have O93 : Only NoF w w85 := (Only.trans' (o_sg (Only.trans' (Only.trans' O62 o73) o77) s82 (size_only O92) (oneF_ge hg79)) o86)
        have h94 := (SliceOf.kp f1 O93 (fun _ _ h => h) (fun _ _ _ _ h => h))
        obtain ⟨q, hq⟩ : ∃ q : Nat, i = (q : Int) := ⟨i.toNat, by omega⟩
        have hk95 : q < (a.ms).length := by omega
        obtain ⟨m96, hm97, ok98, hA99⟩ := Row.el KMsg h94 hk95
        have E100 : ∀ W, Only NoF w85 W → CA W (eA A1 3 (q)) [.int .i64 (m96.a), .int .i64 (m96.b), strV (m96.t)] := Row.ce KMsg h94 hm97 rfl
        refine MSP (b := false) (by kernel_rfl) (fun W oW => r_ia (k := q) (size := 3) Try.underlying22 Try.sizeOf27 Hz rfl rfl hq hk95 hA99) Hz rfl rfl ?_
        clear Hz az; intro az Hz
        refine MSP (b := true) (by kernel_rfl) (fun W oW => r_ldA Try.isAgg27 Try.sizeOf27 Hz rfl (E100 _ (Only.trans' (Only.refl NoF w85) oW)) rfl) Hz rfl rfl ?_
        clear Hz az; intro az Hz
        obtain ⟨A101, w102, hw, hA, r103, o104⟩ := Row.made (w := w85) KMsg (e := 27) ([m96] : List Msg) (by simp only [List.length_cons, List.length_nil]; unfold maxLen; omega)
        refine MD (r_bs (z := .agg #[.int .i64 (0), .int .i64 (0), strV ([])]) (size := 3) (vs := [(0, .agg #[.int .i64 (m96.a), .int .i64 (m96.b), strV (m96.t)])]) (cs := List.flatMap KMsg.cells [m96]) Try.underlying22 Try.sizeOf27 zeroMsg rfl (Fr.evalps Hz rfl) (by kernel_rfl)) Hz rfl rfl ?_ ?_
        · rw [← hw]; exact ⟨fun _ => o104, (Only.trans (Only.refl (orF (ownF (.slice A65 (a.ms.length) c67)) (oneF g75)) w85) o104 (fun _ h => h.elim))⟩
        rw [← hw, ← hA]; clear Hz az; intro az Hz
        clear hw hA
        have ok105 : ∀ zq ∈ ([m96] : List Msg), KMsg.ok zq := by intro zq hx; simp only [List.mem_cons, List.not_mem_nil, or_false] at hx; rcases hx with rfl <;> first | exact ok98
        have r106 := (ow_k r91 o104)
        have h107 := Row.own KMsg r103 ok105
        have h108 := SliceOf.pl h107
        have hb116 : (List.length (a.ms) + List.length ([m96])) * 32 ≤ 140737488355328 := by first | omega | (simp; omega)
        have O117 : Only NoF w37 w102 := (Only.trans' (Only.trans' (o_sg (Only.trans' o73 o77) s82 (size_only o73) (oneF_ge hg79)) o86) o104)
        obtain ⟨A109, c110, w111, hr112, r113, o114, al115⟩ := Row.app (P := Try.prog) (l := a.ms) (l2 := [m96]) KMsg elemMsg r106 h108 hb116 (by unfold maxLen; omega) (size_only O117)
        refine MD (r_app hr112 Hz rfl rfl) Hz rfl rfl ?_ ?_
        · exact ⟨fun h => absurd h (by decide), (Only.trans (Only.trans (Only.refl (orF (ownF (.slice A65 (a.ms.length) c67)) (oneF g75)) w85) o104 (fun _ h => h.elim)) o114 (fun _ h => .inl (.inl h)))⟩
        clear Hz az; intro az Hz
        have ok118 : ∀ zq ∈ (a.ms ++ [m96]), KMsg.ok zq := (fun x hx => (List.mem_append.1 hx).elim (k71 x) ((Row.oks KMsg h108) x))
        have h119 := Row.own KMsg r113 ok118
        refine MSP (b := false) (by kernel_rfl) (fun W oW => r_fa (m' := 0) Try.underlying25 rfl Try.sizeOf22 rfl Hz rfl rfl) Hz rfl rfl ?_
        clear Hz az; intro az Hz
        have B120 := (Blk.only (Blk.k B87 o104) o114 (ow_nb r106 (Blk.k B87 o104) (by decide)))
        refine MSS (cs' := [.slice A109 (((a.ms ++ [m96])).length) c110, .slice A66 (a.cs.length) c68]) Try.sizeOf22 Hz rfl rfl rfl rfl rfl rfl ⟨rfl, trivial⟩ B120 rfl rfl fun w121 s122 B123 => ?_
        refine ⟨⟨fun h => absurd h (by decide), (Only.trans (Only.trans (Only.trans (Only.refl (orF (ownF (.slice A65 (a.ms.length) c67)) (oneF g75)) w85) o104 (fun _ h => h.elim)) o114 (fun _ h => .inl (.inl h))) s122 (fun _ h => .inl (.inr h)))⟩, ?_⟩
        refine wpMix_nil ?_
        refine hK84 _ _ ?_
        refine wp_seq_k fun K124 hK124 => ?_
        -- ref.go:87
        refine wp_region_lit ?_
        refine L (r_ldA Try.isAgg25 Try.sizeOf25 Hz rfl (Blk.ca B123) rfl) Hz rfl ?_
        clear Hz az; intro az Hz
        have O126 : Only NoF w9 w74 := (Only.trans' (Only.trans' o21 o38) o73)
        have ne125 : g8 ≠ g75 := (ne_of hl13 (Nat.le_trans (size_only O126) hg79))
        have B127 := (Blk.st (Blk.only (Blk.k (Blk.k (Blk.st (Blk.k (Blk.k (Blk.k (Blk.k B11 o21) o38) o73) o77) s82 ne125) o86) o104) o114 (ow_nb r106 (Blk.k (Blk.k (Blk.st (Blk.k (Blk.k (Blk.k (Blk.k B11 o21) o38) o73) o77) s82 ne125) o86) o104) (by decide))) s122 ne125)
        refine LSt (cs' := [.slice A109 (((a.ms ++ [m96])).length) c110, .slice A66 (a.cs.length) c68]) Try.sizeOf25 Hz rfl rfl rfl rfl rfl ⟨rfl, rfl, trivial⟩ B127 rfl rfl fun w128 s129 B130 => ?_
        refine L (r_as Hz rfl) Hz rfl ?_
        clear Hz az; intro az Hz
        refine hK124 _ _ ?_
        refine wp_ret ?_
        show bodyPost _ _ _ .ret _ _
        refine ret_of (vs := [.agg #[.slice A109 (((a.ms ++ [m96])).length) c110, .slice A66 (a.cs.length) c68], .int .i64 (0)]) Hz Try.results15 ⟨⟨_, rfl, l_ca Try.isAgg25 Try.sizeOf25 (Blk.ca B130) rfl⟩, rfl, trivial⟩ ?_
        have O131 : Only NoF w9 w37 := (Only.trans' o21 o38)
        have r132 := (ow_only (ow_only r113 s122 (fun k hk hF => ow_nb r113 B120 (by decide) (by rw [show k = g75 from hF] at hk; exact hk))) s129 (fun k hk => ge_F (oneF_lt hl13) (size_only O131) k (ownF_ge (ow_only r113 s122 (fun k hk hF => ow_nb r113 B120 (by decide) (by rw [show k = g75 from hF] at hk; exact hk))) k hk)))
        have r133 := (ow_only (ow_only (ow_only (ow_k (ow_k (ow_only (ow_k r70 o77) s82 (fun k hk => lt_F (oneF_ge hg79) (Nat.le_refl _) k (ownF_lt r70 k hk))) o86) o104) o114 (ow_ne (ow_k (ow_k (ow_only (ow_k r70 o77) s82 (fun k hk => lt_F (oneF_ge hg79) (Nat.le_refl _) k (ownF_lt r70 k hk))) o86) o104) r106 (by decide))) s122 (fun k hk => lt_F (oneF_ge hg79) (Nat.le_refl _) k (ownF_lt r70 k hk))) s129 (fun k hk => ge_F (oneF_lt hl13) (size_only O131) k (ownF_ge (ow_only (ow_only (ow_k (ow_k (ow_only (ow_k r70 o77) s82 (fun k hk => lt_F (oneF_ge hg79) (Nat.le_refl _) k (ownF_lt r70 k hk))) o86) o104) o114 (ow_ne (ow_k (ow_k (ow_only (ow_k r70 o77) s82 (fun k hk => lt_F (oneF_ge hg79) (Nat.le_refl _) k (ownF_lt r70 k hk))) o86) o104) r106 (by decide))) s122 (fun k hk => lt_F (oneF_ge hg79) (Nat.le_refl _) k (ownF_lt r70 k hk))) k hk)))
        rw [Lnk.rd4 hc22 hc39 hc52 hm97 hq]
        have O134 : Only NoF w w128 := (o_sg (o_sg (o_sg (Only.trans' O93 o104) o114 (size_only O62) (ownF_ge r69)) s122 (size_only O92) (oneF_ge hg79)) s129 (size_only o4) (oneF_ge hg12))
        exact ⟨_, _, _, _, rfl, (ow_low r132 (size_only O62)), (ow_low r133 (size_only O62)), ok118, k72, O134⟩

theorem rDouble_v {w : World} {v : Value} {a : Air} (h : AirV w v a) (hf : Few_ a) (i : Int) : Calls Try.prog 15 #[v, .int .i64 i] w (AirO w (Lnk.double a i)) := by
  obtain ⟨v1, v2, rfl, f1, f2⟩ := h
  obtain ⟨A1, c1, rfl, _⟩ := SliceOf.shape f1
  obtain ⟨A2, c2, rfl, _⟩ := SliceOf.shape f2
  exact rDouble_v_ f1 f2 hf i

set_option maxHeartbeats 4000000 in
theorem rLose_v_ {w : World} {a : Air} {A1 A2 : Option Addr} {c1 c2 : Nat} (f1 : Msgs w (.slice A1 a.ms.length c1) a.ms) (f2 : Prs w (.slice A2 a.cs.length c2) a.cs) (hf : a.ms.length ≤ 1000000 ∧ a.cs.length ≤ 1000000) (i : Int) : Calls Try.prog 17 #[.agg #[.slice A1 a.ms.length c1, .slice A2 a.cs.length c2], .int .i64 i] w (AirO w (Lnk.lose a i)) := by
  have hb1 := Nat.le_trans (SliceOf.cap_ f1) (SliceOf.lens f1).2
  have hb2 := Nat.le_trans (SliceOf.cap_ f2) (SliceOf.lens f2).2
  refine calls_start Try.func17 rfl rfl ?_
  intro az Hz
  rw [Try.ntmps17] at Hz
  refine wp_seq_k fun K1 hK1 => ?_
  -- ref.go:91
  refine wp_region_lit ?_
  refine LBox Hz rfl rfl rfl ?_
  clear Hz az; intro g2 w3 hg6 hl7 o4 B5 az Hz
  refine LAl (v := .agg #[.slice none (0) 0, .slice none (0) 0]) zeroAir Hz rfl rfl ?_
  clear Hz az; intro g8 w9 hg12 hl13 o10 B11 az Hz
  refine L (r_as Hz rfl) Hz rfl ?_
  clear Hz az; intro az Hz
  refine hK1 _ _ ?_
  refine wp_seq_k fun K14 hK14 => ?_
  refine wp_seq_k fun K15 hK15 => ?_
  -- ref.go:92
  refine wp_region_lit ?_
  have B16 := (Blk.k B5 o10)
  refine L (r_ldA Try.isAgg25 Try.sizeOf25 Hz rfl (Blk.ca B16) rfl) Hz rfl ?_
  clear Hz az; intro az Hz
  have O17 : Only NoF w w9 := (Only.trans' o4 o10)
  have h18 := (SliceOf.kp f1 O17 (fun _ _ h => h) (fun _ _ _ _ h => h))
  have h19 := (SliceOf.kp f2 O17 (fun _ _ h => h) (fun _ _ _ _ h => h))
  refine LCV (v := .bool (Lnk.right a)) Hz rfl rfl Try.call29 (rRight_v (show AirV _ _ a from ⟨_, _, rfl, h18, h19⟩)) rfl fun w20 o21 => ?_
  clear Hz az; intro az Hz
  refine L (r_not Hz rfl) Hz rfl ?_
  clear Hz az; intro az Hz
  refine hK15 _ _ ?_
  refine br Hz rfl (fun hc22 => ?_) (fun hc22 => ?_)
  · -- if0
    have q23 : Lnk.right a = false := (nt_t hc22)
    refine wp_seq_k fun K24 hK24 => ?_
    -- ref.go:93
    refine wp_region_lit ?_
    refine L (r_bd (v := .agg #[.slice none (0) 0, .slice none (0) 0]) build_Air0 Hz rfl) Hz rfl ?_
    clear Hz az; intro az Hz
    have B25 := (Blk.k B11 o21)
    refine LSt (cs' := [.slice none (0) 0, .slice none (0) 0]) Try.sizeOf25 Hz rfl rfl rfl rfl rfl ⟨rfl, rfl, trivial⟩ B25 rfl rfl fun w26 s27 B28 => ?_
    refine L (r_as Hz rfl) Hz rfl ?_
    clear Hz az; intro az Hz
    refine hK24 _ _ ?_
    refine wp_ret ?_
    show bodyPost _ _ _ .ret _ _
    refine ret_of (vs := [.agg #[.slice none (0) 0, .slice none (0) 0], .int .i64 (1)]) Hz Try.results17 ⟨⟨_, rfl, l_ca Try.isAgg25 Try.sizeOf25 (Blk.ca B28) rfl⟩, rfl, trivial⟩ ?_
    rw [Lnk.rl1 hc22]
    have O29 : Only NoF w w26 := (o_sg (Only.trans' O17 o21) s27 (size_only o4) (oneF_ge hg12))
    exact ⟨_, _, _, _, rfl, (World.ownsRow_nil _ _ _ _), (World.ownsRow_nil _ _ _ _), (fun x hx => by cases hx), (fun x hx => by cases hx), O29⟩
  · -- else0
    have q30 : Lnk.right a = true := (nt_f hc22)
    refine wp_skip ?_
    refine hK14 _ _ ?_
    refine wp_seq_k fun K31 hK31 => ?_
    refine wp_seq_k fun K32 hK32 => ?_
    -- ref.go:95
    refine wp_region_lit ?_
    have B33 := (Blk.k B16 o21)
    refine L (r_ldA Try.isAgg25 Try.sizeOf25 Hz rfl (Blk.ca B33) rfl) Hz rfl ?_
    clear Hz az; intro az Hz
    refine L (r_mv Hz rfl) Hz rfl ?_
    clear Hz az; intro az Hz
    have O34 : Only NoF w w20 := (Only.trans' O17 o21)
    have h35 := (SliceOf.kp f1 O34 (fun _ _ h => h) (fun _ _ _ _ h => h))
    have h36 := (SliceOf.kp f2 O34 (fun _ _ h => h) (fun _ _ _ _ h => h))
    refine LCV (v := .bool (((decide (0 ≤ i)) && (decide (i < ((a.ms.length : Nat) : Int)))))) Hz rfl rfl Try.call40 (ris_v (show AirV _ _ a from ⟨_, _, rfl, h35, h36⟩) i) rfl fun w37 o38 => ?_
    clear Hz az; intro az Hz
    refine L (r_not Hz rfl) Hz rfl ?_
    clear Hz az; intro az Hz
    refine hK32 _ _ ?_
    refine br Hz rfl (fun hc39 => ?_) (fun hc39 => ?_)
    · -- if1
      have d40 := (nt_t hc39)
      refine wp_seq_k fun K41 hK41 => ?_
      -- ref.go:96
      refine wp_region_lit ?_
      refine L (r_bd (v := .agg #[.slice none (0) 0, .slice none (0) 0]) build_Air0 Hz rfl) Hz rfl ?_
      clear Hz az; intro az Hz
      have B42 := (Blk.k (Blk.k B11 o21) o38)
      refine LSt (cs' := [.slice none (0) 0, .slice none (0) 0]) Try.sizeOf25 Hz rfl rfl rfl rfl rfl ⟨rfl, rfl, trivial⟩ B42 rfl rfl fun w43 s44 B45 => ?_
      refine L (r_as Hz rfl) Hz rfl ?_
      clear Hz az; intro az Hz
      refine hK41 _ _ ?_
      refine wp_ret ?_
      show bodyPost _ _ _ .ret _ _
      refine ret_of (vs := [.agg #[.slice none (0) 0, .slice none (0) 0], .int .i64 (4)]) Hz Try.results17 ⟨⟨_, rfl, l_ca Try.isAgg25 Try.sizeOf25 (Blk.ca B45) rfl⟩, rfl, trivial⟩ ?_
      rw [Lnk.rl2 hc22 hc39]
      have O46 : Only NoF w w43 := (o_sg (Only.trans' O34 o38) s44 (size_only o4) (oneF_ge hg12))
      exact ⟨_, _, _, _, rfl, (World.ownsRow_nil _ _ _ _), (World.ownsRow_nil _ _ _ _), (fun x hx => by cases hx), (fun x hx => by cases hx), O46⟩
    · -- else1
      have p47 := of_decide_eq_true (and_t (nt_f hc39)).1
      have p48 := of_decide_eq_true (and_t (nt_f hc39)).2
      refine wp_skip ?_
      refine hK31 _ _ ?_
      refine wp_seq_k fun K49 hK49 => ?_
      -- ref.go:98
      refine wp_region_lit ?_
      have B50 := (Blk.k B33 o38)
      refine L (r_ldA Try.isAgg25 Try.sizeOf25 Hz rfl (Blk.ca B50) rfl) Hz rfl ?_
      clear Hz az; intro az Hz
      refine L (r_mv Hz rfl) Hz rfl ?_
      clear Hz az; intro az Hz
      have O51 : Only NoF w w37 := (Only.trans' O34 o38)
      have h52 := (SliceOf.kp f1 O51 (fun _ _ h => h) (fun _ _ _ _ h => h))
      have h53 := (SliceOf.kp f2 O51 (fun _ _ h => h) (fun _ _ _ _ h => h))
      refine LC Hz rfl rfl Try.call38 (rcopied_v (show AirV _ _ a from ⟨_, _, rfl, h52, h53⟩) hf i) rfl ?_
      rintro e w63 ⟨A54, c56, A55, c57, rfl, r58, r59, k60, k61, o62⟩; refine ⟨_, rfl, ?_⟩
      clear Hz az; intro az Hz
      have B64 := (Blk.k (Blk.k (Blk.k B11 o21) o38) o62)
      refine LSt (cs' := [.slice A54 ((⟨Lnk.dropI i a.ms, a.cs⟩ : Air).ms.length) c56, .slice A55 ((⟨Lnk.dropI i a.ms, a.cs⟩ : Air).cs.length) c57]) Try.sizeOf25 Hz rfl rfl rfl rfl rfl ⟨rfl, rfl, trivial⟩ B64 rfl rfl fun w65 s66 B67 => ?_
      refine L (r_as Hz rfl) Hz rfl ?_
      clear Hz az; intro az Hz
      refine hK49 _ _ ?_
      refine wp_ret ?_
      show bodyPost _ _ _ .ret _ _
      refine ret_of (vs := [.agg #[.slice A54 ((⟨Lnk.dropI i a.ms, a.cs⟩ : Air).ms.length) c56, .slice A55 ((⟨Lnk.dropI i a.ms, a.cs⟩ : Air).cs.length) c57], .int .i64 (0)]) Hz Try.results17 ⟨⟨_, rfl, l_ca Try.isAgg25 Try.sizeOf25 (Blk.ca B67) rfl⟩, rfl, trivial⟩ ?_
      have O68 : Only NoF w9 w37 := (Only.trans' o21 o38)
      have r69 := (ow_only r58 s66 (fun k hk => ge_F (oneF_lt hl13) (size_only O68) k (ownF_ge r58 k hk)))
      have r70 := (ow_only r59 s66 (fun k hk => ge_F (oneF_lt hl13) (size_only O68) k (ownF_ge r59 k hk)))
      rw [Lnk.rl3 hc22 hc39]
      have O71 : Only NoF w w65 := (o_sg (Only.trans' O51 o62) s66 (size_only o4) (oneF_ge hg12))
      exact ⟨_, _, _, _, rfl, (ow_low r69 (size_only O51)), (ow_low r70 (size_only O51)), k60, k61, O71⟩

theorem rLose_v {w : World} {v : Value} {a : Air} (h : AirV w v a) (hf : Few_ a) (i : Int) : Calls Try.prog 17 #[v, .int .i64 i] w (AirO w (Lnk.lose a i)) := by
  obtain ⟨v1, v2, rfl, f1, f2⟩ := h
  obtain ⟨A1, c1, rfl, _⟩ := SliceOf.shape f1
  obtain ⟨A2, c2, rfl, _⟩ := SliceOf.shape f2
  exact rLose_v_ f1 f2 hf i

set_option maxHeartbeats 4000000 in
theorem rDeliver_v_ {w : World} {a : Air} {A1 A2 : Option Addr} {c1 c2 : Nat} (f1 : Msgs w (.slice A1 a.ms.length c1) a.ms) (f2 : Prs w (.slice A2 a.cs.length c2) a.cs) (hf : a.ms.length ≤ 1000000 ∧ a.cs.length ≤ 1000000) (i : Int) : Calls Try.prog 23 #[.agg #[.slice A1 a.ms.length c1, .slice A2 a.cs.length c2], .int .i64 i] w (DelO w (Lnk.deliver a i)) := by
  have hb1 := Nat.le_trans (SliceOf.cap_ f1) (SliceOf.lens f1).2
  have hb2 := Nat.le_trans (SliceOf.cap_ f2) (SliceOf.lens f2).2
  refine calls_start Try.func23 rfl rfl ?_
  intro az Hz
  rw [Try.ntmps23] at Hz
  refine wp_seq_k fun K1 hK1 => ?_
  -- ref.go:102
  refine wp_region_lit ?_
  refine LBox Hz rfl rfl rfl ?_
  clear Hz az; intro g2 w3 hg6 hl7 o4 B5 az Hz
  refine LAl (v := .agg #[.slice none (0) 0, .slice none (0) 0]) zeroAir Hz rfl rfl ?_
  clear Hz az; intro g8 w9 hg12 hl13 o10 B11 az Hz
  refine LAl (v := .agg #[.int .i64 (0), .int .i64 (0), strV ([])]) zeroMsg Hz rfl rfl ?_
  clear Hz az; intro g14 w15 hg18 hl19 o16 B17 az Hz
  refine L (r_as Hz rfl) Hz rfl ?_
  clear Hz az; intro az Hz
  refine hK1 _ _ ?_
  refine wp_seq_k fun K20 hK20 => ?_
  -- ref.go:103
  refine wp_region_lit ?_
  have B21 := (Blk.k (Blk.k B5 o10) o16)
  refine L (r_ldA Try.isAgg25 Try.sizeOf25 Hz rfl (Blk.ca B21) rfl) Hz rfl ?_
  clear Hz az; intro az Hz
  refine L (r_mv Hz rfl) Hz rfl ?_
  clear Hz az; intro az Hz
  have O22 : Only NoF w w15 := (Only.trans' (Only.trans' o4 o10) o16)
  have h23 := (SliceOf.kp f1 O22 (fun _ _ h => h) (fun _ _ _ _ h => h))
  have h24 := (SliceOf.kp f2 O22 (fun _ _ h => h) (fun _ _ _ _ h => h))
  refine LC Hz rfl rfl Try.call17 (rLose_v (show AirV _ _ a from ⟨_, _, rfl, h23, h24⟩) hf (i)) rfl ?_
  rintro e w34 ⟨A25, c27, A26, c28, rfl, r29, r30, k31, k32, o33⟩; refine ⟨_, rfl, ?_⟩
  clear Hz az; intro az Hz
  refine L (r_mv Hz rfl) Hz rfl ?_
  clear Hz az; intro az Hz
  refine L (r_ex Hz rfl rfl) Hz rfl ?_
  clear Hz az; intro az Hz
  refine L (r_ex Hz rfl rfl) Hz rfl ?_
  clear Hz az; intro az Hz
  refine LAl (v := .agg #[.slice none (0) 0, .slice none (0) 0]) zeroAir Hz rfl rfl ?_
  clear Hz az; intro g35 w36 hg39 hl40 o37 B38 az Hz
  refine LSt (cs' := [.slice A25 ((Lnk.lose a i).1.ms.length) c27, .slice A26 ((Lnk.lose a i).1.cs.length) c28]) Try.sizeOf25 Hz rfl rfl rfl rfl rfl ⟨rfl, rfl, trivial⟩ B38 rfl rfl fun w41 s42 B43 => ?_
  refine L (r_as Hz rfl) Hz rfl ?_
  clear Hz az; intro az Hz
  refine hK20 _ _ ?_
  refine wp_seq_k fun K44 hK44 => ?_
  refine wp_seq_k fun K45 hK45 => ?_
  -- ref.go:104
  refine wp_region_lit ?_
  refine L (r_mv Hz rfl) Hz rfl ?_
  clear Hz az; intro az Hz
  refine L (r_neI Hz rfl rfl) Hz rfl ?_
  clear Hz az; intro az Hz
  refine hK45 _ _ ?_
  refine br Hz rfl (fun hc46 => ?_) (fun hc46 => ?_)
  · -- if0
    have p47 := of_decide_eq_false (nt_t hc46)
    refine wp_seq_k fun K48 hK48 => ?_
    -- ref.go:105
    refine wp_region_lit ?_
    refine L (r_bd (v := .agg #[.slice none (0) 0, .slice none (0) 0]) build_Air0 Hz rfl) Hz rfl ?_
    clear Hz az; intro az Hz
    refine L (r_bd (v := .agg #[.int .i64 (0), .int .i64 (0), strV ([])]) build_Msg0 Hz rfl) Hz rfl ?_
    clear Hz az; intro az Hz
    refine L (r_mv Hz rfl) Hz rfl ?_
    clear Hz az; intro az Hz
    have O50 : Only NoF w9 w34 := (Only.trans' o16 o33)
    have ne49 : g8 ≠ g35 := (ne_of hl13 (Nat.le_trans (size_only O50) hg39))
    have B51 := (Blk.st (Blk.k (Blk.k (Blk.k B11 o16) o33) o37) s42 ne49)
    refine LSt (cs' := [.slice none (0) 0, .slice none (0) 0]) Try.sizeOf25 Hz rfl rfl rfl rfl rfl ⟨rfl, rfl, trivial⟩ B51 rfl rfl fun w52 s53 B54 => ?_
    have ne55 : g14 ≠ g35 := (ne_of hl19 (Nat.le_trans (size_only o33) hg39))
    have ne56 : g14 ≠ g8 := (ne_of hl13 hg18).symm
    have B57 := (Blk.st (Blk.st (Blk.k (Blk.k B17 o33) o37) s42 ne55) s53 ne56)
    refine LSt (cs' := [.int .i64 (0), .int .i64 (0), strV ([])]) Try.sizeOf27 Hz rfl rfl rfl rfl rfl ⟨rfl, rfl, rfl, trivial⟩ B57 rfl rfl fun w58 s59 B60 => ?_
    refine L (r_as Hz rfl) Hz rfl ?_
    clear Hz az; intro az Hz
    refine hK48 _ _ ?_
    refine wp_ret ?_
    show bodyPost _ _ _ .ret _ _
    have ne61 : g8 ≠ g14 := (ne_of hl13 hg18)
    have B62 := (Blk.st B54 s59 ne61)
    refine ret_of (vs := [.agg #[.slice none (0) 0, .slice none (0) 0], .agg #[.int .i64 (0), .int .i64 (0), strV ([])], .int .i64 ((Lnk.lose a i).2)]) Hz Try.results23 ⟨⟨_, rfl, l_ca Try.isAgg25 Try.sizeOf25 (Blk.ca B62) rfl⟩, ⟨_, rfl, l_ca Try.isAgg27 Try.sizeOf27 (Blk.ca B60) rfl⟩, rfl, trivial⟩ ?_
    rw [Lnk.rv1 hc46]
    have O63 : Only NoF w w34 := (Only.trans' O22 o33)
    have O64 : Only NoF w w9 := (Only.trans' o4 o10)
    have O65 : Only NoF w w58 := (o_sg (o_sg (o_sg (Only.trans' (Only.trans' O22 o33) o37) s42 (size_only O63) (oneF_ge hg39)) s53 (size_only o4) (oneF_ge hg12)) s59 (size_only O64) (oneF_ge hg18))
    exact ⟨_, _, _, _, rfl, (World.ownsRow_nil _ _ _ _), (World.ownsRow_nil _ _ _ _), (fun x hx => by cases hx), (fun x hx => by cases hx), O65⟩
  · -- else0
    have p66 := of_decide_eq_true (nt_f hc46)
    refine wp_skip ?_
    refine hK44 _ _ ?_
    refine wp_seq_k fun K67 hK67 => ?_
    -- ref.go:107
    refine wp_region_lit ?_
    refine L (r_fa (m' := 0) Try.underlying25 rfl Try.sizeOf22 rfl Hz rfl rfl) Hz rfl ?_
    clear Hz az; intro az Hz
    have O69 : Only NoF w3 w34 := (Only.trans' (Only.trans' o10 o16) o33)
    have ne68 : g2 ≠ g35 := (ne_of hl7 (Nat.le_trans (size_only O69) hg39))
    have B70 := (Blk.st (Blk.k (Blk.k B21 o33) o37) s42 ne68)
    refine L (r_ld Try.isAgg22 Hz rfl ((Blk.ca B70) 0 _ rfl)) Hz rfl ?_
    clear Hz az; intro az Hz
    refine L (r_mv Hz rfl) Hz rfl ?_
    clear Hz az; intro az Hz
    have O71 : Only NoF w w34 := (Only.trans' O22 o33)
    have O72 : Only NoF w w41 := (o_sg (Only.trans' (Only.trans' O22 o33) o37) s42 (size_only O71) (oneF_ge hg39))
    have h73 := (SliceOf.kp f1 O72 (fun _ _ h => h) (fun _ _ _ _ h => h))
    have hbd0 := (Lnk.rv0 hc46).1
    obtain ⟨q, hq⟩ : ∃ q : Nat, i = (q : Int) := ⟨i.toNat, by omega⟩
    have hbd := Lnk.rv0 hc46
    have hk74 : q < (a.ms).length := by omega
    obtain ⟨m75, hm76, ok77, hA78⟩ := Row.el KMsg h73 hk74
    have E79 : ∀ W, Only NoF w41 W → CA W (eA A1 3 (q)) [.int .i64 (m75.a), .int .i64 (m75.b), strV (m75.t)] := Row.ce KMsg h73 hm76 rfl
    refine L (r_ia (k := q) (size := 3) Try.underlying22 Try.sizeOf27 Hz rfl rfl hq hk74 hA78) Hz rfl ?_
    clear Hz az; intro az Hz
    refine L (r_ldA Try.isAgg27 Try.sizeOf27 Hz rfl (E79 _ (Only.refl NoF w41)) rfl) Hz rfl ?_
    clear Hz az; intro az Hz
    refine LAl (v := .agg #[.int .i64 (0), .int .i64 (0), strV ([])]) zeroMsg Hz rfl rfl ?_
    clear Hz az; intro g80 w81 hg84 hl85 o82 B83 az Hz
    refine LSt (cs' := [.int .i64 (m75.a), .int .i64 (m75.b), strV (m75.t)]) Try.sizeOf27 Hz rfl rfl rfl rfl rfl ⟨rfl, rfl, rfl, trivial⟩ B83 rfl rfl fun w86 s87 B88 => ?_
    refine hK67 _ _ ?_
    refine wp_seq_k fun K89 hK89 => ?_
    refine wp_seq_k fun K90 hK90 => ?_
    -- ref.go:108
    refine wp_region_lit ?_
    have O92 : Only NoF w3 w41 := (o_sg (Only.trans' O69 o37) s42 (size_only O69) (oneF_ge hg39))
    have ne91 : g2 ≠ g80 := (ne_of hl7 (Nat.le_trans (size_only O92) hg84))
    have B93 := (Blk.st (Blk.k B70 o82) s87 ne91)
    refine L (r_ldA Try.isAgg25 Try.sizeOf25 Hz rfl (Blk.ca B93) rfl) Hz rfl ?_
    clear Hz az; intro az Hz
    refine L (r_fa (m' := 0) Try.underlying27 rfl Try.sizeOf3 rfl Hz rfl rfl) Hz rfl ?_
    clear Hz az; intro az Hz
    refine L (r_ld Try.isAgg3 Hz rfl ((Blk.ca B88) 0 _ rfl)) Hz rfl ?_
    clear Hz az; intro az Hz
    refine L (r_fa (m' := 1) Try.underlying27 rfl Try.sizeOf3 rfl Hz rfl rfl) Hz rfl ?_
    clear Hz az; intro az Hz
    refine L (r_ld Try.isAgg3 Hz rfl ((Blk.ca B88) 1 _ rfl)) Hz rfl ?_
    clear Hz az; intro az Hz
    have O94 : Only NoF w w86 := (o_sg (Only.trans' O72 o82) s87 (size_only O72) (oneF_ge hg84))
    have h95 := (SliceOf.kp f1 O94 (fun _ _ h => h) (fun _ _ _ _ h => h))
    have h96 := (SliceOf.kp f2 O94 (fun _ _ h => h) (fun _ _ _ _ h => h))
    refine LCV (v := .bool (Lnk.isCut a (m75.a) (m75.b))) Hz rfl rfl Try.call48 (risCut_v (show AirV _ _ a from ⟨_, _, rfl, h95, h96⟩) m75.a m75.b) rfl fun w97 o98 => ?_
    clear Hz az; intro az Hz
    refine hK90 _ _ ?_
    refine br Hz rfl (fun hc99 => ?_) (fun hc99 => ?_)
    · -- if1
      have q100 : Lnk.isCut a (m75.a) (m75.b) = true := hc99
      refine wp_seq_k fun K101 hK101 => ?_
      -- ref.go:109
      refine wp_region_lit ?_
      refine L (r_bd (v := .agg #[.slice none (0) 0, .slice none (0) 0]) build_Air0 Hz rfl) Hz rfl ?_
      clear Hz az; intro az Hz
      refine L (r_bd (v := .agg #[.int .i64 (0), .int .i64 (0), strV ([])]) build_Msg0 Hz rfl) Hz rfl ?_
      clear Hz az; intro az Hz
      have O103 : Only NoF w9 w34 := (Only.trans' o16 o33)
      have ne102 : g8 ≠ g35 := (ne_of hl13 (Nat.le_trans (size_only O103) hg39))
      have O105 : Only NoF w9 w41 := (o_sg (Only.trans' O103 o37) s42 (size_only O103) (oneF_ge hg39))
      have ne104 : g8 ≠ g80 := (ne_of hl13 (Nat.le_trans (size_only O105) hg84))
      have B106 := (Blk.k (Blk.st (Blk.k (Blk.st (Blk.k (Blk.k (Blk.k B11 o16) o33) o37) s42 ne102) o82) s87 ne104) o98)
      refine LSt (cs' := [.slice none (0) 0, .slice none (0) 0]) Try.sizeOf25 Hz rfl rfl rfl rfl rfl ⟨rfl, rfl, trivial⟩ B106 rfl rfl fun w107 s108 B109 => ?_
      have ne110 : g14 ≠ g35 := (ne_of hl19 (Nat.le_trans (size_only o33) hg39))
      have O112 : Only NoF w15 w41 := (o_sg (Only.trans' o33 o37) s42 (size_only o33) (oneF_ge hg39))
      have ne111 : g14 ≠ g80 := (ne_of hl19 (Nat.le_trans (size_only O112) hg84))
      have ne113 : g14 ≠ g8 := (ne_of hl13 hg18).symm
      have B114 := (Blk.st (Blk.k (Blk.st (Blk.k (Blk.st (Blk.k (Blk.k B17 o33) o37) s42 ne110) o82) s87 ne111) o98) s108 ne113)
      refine LSt (cs' := [.int .i64 (0), .int .i64 (0), strV ([])]) Try.sizeOf27 Hz rfl rfl rfl rfl rfl ⟨rfl, rfl, rfl, trivial⟩ B114 rfl rfl fun w115 s116 B117 => ?_
      refine L (r_as Hz rfl) Hz rfl ?_
      clear Hz az; intro az Hz
      refine hK101 _ _ ?_
      refine wp_ret ?_
      show bodyPost _ _ _ .ret _ _
      have ne118 : g8 ≠ g14 := (ne_of hl13 hg18)
      have B119 := (Blk.st B109 s116 ne118)
      refine ret_of (vs := [.agg #[.slice none (0) 0, .slice none (0) 0], .agg #[.int .i64 (0), .int .i64 (0), strV ([])], .int .i64 (7)]) Hz Try.results23 ⟨⟨_, rfl, l_ca Try.isAgg25 Try.sizeOf25 (Blk.ca B119) rfl⟩, ⟨_, rfl, l_ca Try.isAgg27 Try.sizeOf27 (Blk.ca B117) rfl⟩, rfl, trivial⟩ ?_
      rw [Lnk.rv2 hc46 hm76 hq hc99]
      have O120 : Only NoF w w9 := (Only.trans' o4 o10)
      have O121 : Only NoF w w115 := (o_sg (o_sg (Only.trans' O94 o98) s108 (size_only o4) (oneF_ge hg12)) s116 (size_only O120) (oneF_ge hg18))
      exact ⟨_, _, _, _, rfl, (World.ownsRow_nil _ _ _ _), (World.ownsRow_nil _ _ _ _), (fun x hx => by cases hx), (fun x hx => by cases hx), O121⟩
    · -- else1
      have q122 : Lnk.isCut a (m75.a) (m75.b) = false := hc99
      refine wp_skip ?_
      refine hK89 _ _ ?_
      refine wp_seq_k fun K123 hK123 => ?_
      -- ref.go:111
      refine reg_m (orF (oneF g8) (oneF g14)) 0 [2, 3] [(true, 0), (true, 1), (false, 2), (false, 3), (true, 4)] (by kernel_rfl) (by kernel_rfl) (fun _ _ _ _ _ h => h) fun w124 o125 => ?_
      have O127 := (Only.trans (Only.refl (fun _ => True) w36) s42 (fun _ _ => .inl trivial))
      have ne126 : g35 ≠ g80 := (ne_of hl40 (Nat.le_trans (size_only O127) hg84))
      have B128 := (Blk.k (Blk.k (Blk.st (Blk.k B43 o82) s87 ne126) o98) o125)
      have B129 := (Blk.k (Blk.k B88 o98) o125)
      have O131 : Only NoF w9 w34 := (Only.trans' o16 o33)
      have ne130 : g8 ≠ g35 := (ne_of hl13 (Nat.le_trans (size_only O131) hg39))
      have O133 : Only NoF w9 w41 := (o_sg (Only.trans' O131 o37) s42 (size_only O131) (oneF_ge hg39))
      have ne132 : g8 ≠ g80 := (ne_of hl13 (Nat.le_trans (size_only O133) hg84))
      have B134 := (Blk.k (Blk.k (Blk.st (Blk.k (Blk.st (Blk.k (Blk.k (Blk.k B11 o16) o33) o37) s42 ne130) o82) s87 ne132) o98) o125)
      have ne135 : g14 ≠ g35 := (ne_of hl19 (Nat.le_trans (size_only o33) hg39))
      have O137 : Only NoF w15 w41 := (o_sg (Only.trans' o33 o37) s42 (size_only o33) (oneF_ge hg39))
      have ne136 : g14 ≠ g80 := (ne_of hl19 (Nat.le_trans (size_only O137) hg84))
      have B138 := (Blk.k (Blk.k (Blk.st (Blk.k (Blk.st (Blk.k (Blk.k B17 o33) o37) s42 ne135) o82) s87 ne136) o98) o125)
      refine MSP (b := true) (by kernel_rfl) (fun W oW => r_ldA Try.isAgg25 Try.sizeOf25 Hz rfl (Blk.ca (Blk.k B128 oW)) rfl) Hz rfl rfl ?_
      clear Hz az; intro az Hz
      have ne139 : g80 ≠ g8 := (ne_of hl13 (Nat.le_trans (size_only O133) hg84)).symm
      have ne140 : g80 ≠ g14 := (ne_of hl19 (Nat.le_trans (size_only O137) hg84)).symm
      refine MSP (b := false) (by kernel_rfl) (fun W oW => r_ldA Try.isAgg27 Try.sizeOf27 Hz rfl (Blk.ca (Blk.only B129 oW (fun h => h.elim ne139 ne140))) rfl) Hz rfl rfl ?_
      clear Hz az; intro az Hz
      refine MSS (cs' := [.slice A25 ((Lnk.lose a i).1.ms.length) c27, .slice A26 ((Lnk.lose a i).1.cs.length) c28]) Try.sizeOf25 Hz rfl rfl rfl rfl rfl rfl ⟨rfl, rfl, trivial⟩ B134 rfl rfl fun w141 s142 B143 => ?_
      refine ⟨⟨fun h => absurd h (by decide), (Only.trans (Only.refl (orF (oneF g8) (oneF g14)) w124) s142 (fun _ h => .inl (.inl h)))⟩, ?_⟩
      have ne144 : g14 ≠ g8 := (ne_of hl13 hg18).symm
      have B145 := (Blk.st B138 s142 ne144)
      refine MSS (cs' := [.int .i64 (m75.a), .int .i64 (m75.b), strV (m75.t)]) Try.sizeOf27 Hz rfl rfl rfl rfl rfl rfl ⟨rfl, rfl, rfl, trivial⟩ B145 rfl rfl fun w146 s147 B148 => ?_
      refine ⟨⟨fun h => absurd h (by decide), (Only.trans (Only.trans (Only.refl (orF (oneF g8) (oneF g14)) w124) s142 (fun _ h => .inl (.inl h))) s147 (fun _ h => .inl (.inr h)))⟩, ?_⟩
      refine MSP (b := false) (by kernel_rfl) (fun W oW => r_as Hz rfl) Hz rfl rfl ?_
      clear Hz az; intro az Hz
      refine wpMix_nil ?_
      refine hK123 _ _ ?_
      refine wp_ret ?_
      show bodyPost _ _ _ .ret _ _
      have ne149 : g8 ≠ g14 := (ne_of hl13 hg18)
      have B150 := (Blk.st B143 s147 ne149)
      refine ret_of (vs := [.agg #[.slice A25 ((Lnk.lose a i).1.ms.length) c27, .slice A26 ((Lnk.lose a i).1.cs.length) c28], .agg #[.int .i64 (m75.a), .int .i64 (m75.b), strV (m75.t)], .int .i64 (0)]) Hz Try.results23 ⟨⟨_, rfl, l_ca Try.isAgg25 Try.sizeOf25 (Blk.ca B150) rfl⟩, ⟨_, rfl, l_ca Try.isAgg27 Try.sizeOf27 (Blk.ca B148) rfl⟩, rfl, trivial⟩ ?_
      have O151 : Only NoF w34 w41 := (o_sg o37 s42 (Nat.le_refl _) (oneF_ge hg39))
      have r152 := (ow_only (ow_only (ow_k (ow_k (ow_only (ow_k (ow_only (ow_k r29 o37) s42 (fun k hk => lt_F (oneF_ge hg39) (Nat.le_refl _) k (ownF_lt r29 k hk))) o82) s87 (fun k hk => lt_F (oneF_ge hg84) (size_only O151) k (ownF_lt r29 k hk))) o98) o125) s142 (fun k hk => ge_F (oneF_lt hl13) (size_only o16) k (ownF_ge (ow_k (ow_k (ow_only (ow_k (ow_only (ow_k r29 o37) s42 (fun k hk => lt_F (oneF_ge hg39) (Nat.le_refl _) k (ownF_lt r29 k hk))) o82) s87 (fun k hk => lt_F (oneF_ge hg84) (size_only O151) k (ownF_lt r29 k hk))) o98) o125) k hk))) s147 (fun k hk => ge_F (oneF_lt hl19) (Nat.le_refl _) k (ownF_ge (ow_only (ow_k (ow_k (ow_only (ow_k (ow_only (ow_k r29 o37) s42 (fun k hk => lt_F (oneF_ge hg39) (Nat.le_refl _) k (ownF_lt r29 k hk))) o82) s87 (fun k hk => lt_F (oneF_ge hg84) (size_only O151) k (ownF_lt r29 k hk))) o98) o125) s142 (fun k hk => ge_F (oneF_lt hl13) (size_only o16) k (ownF_ge (ow_k (ow_k (ow_only (ow_k (ow_only (ow_k r29 o37) s42 (fun k hk => lt_F (oneF_ge hg39) (Nat.le_refl _) k (ownF_lt r29 k hk))) o82) s87 (fun k hk => lt_F (oneF_ge hg84) (size_only O151) k (ownF_lt r29 k hk))) o98) o125) k hk))) k hk)))
      have r153 := (ow_only (ow_only (ow_k (ow_k (ow_only (ow_k (ow_only (ow_k r30 o37) s42 (fun k hk => lt_F (oneF_ge hg39) (Nat.le_refl _) k (ownF_lt r30 k hk))) o82) s87 (fun k hk => lt_F (oneF_ge hg84) (size_only O151) k (ownF_lt r30 k hk))) o98) o125) s142 (fun k hk => ge_F (oneF_lt hl13) (size_only o16) k (ownF_ge (ow_k (ow_k (ow_only (ow_k (ow_only (ow_k r30 o37) s42 (fun k hk => lt_F (oneF_ge hg39) (Nat.le_refl _) k (ownF_lt r30 k hk))) o82) s87 (fun k hk => lt_F (oneF_ge hg84) (size_only O151) k (ownF_lt r30 k hk))) o98) o125) k hk))) s147 (fun k hk => ge_F (oneF_lt hl19) (Nat.le_refl _) k (ownF_ge (ow_only (ow_k (ow_k (ow_only (ow_k (ow_only (ow_k r30 o37) s42 (fun k hk => lt_F (oneF_ge hg39) (Nat.le_refl _) k (ownF_lt r30 k hk))) o82) s87 (fun k hk => lt_F (oneF_ge hg84) (size_only O151) k (ownF_lt r30 k hk))) o98) o125) s142 (fun k hk => ge_F (oneF_lt hl13) (size_only o16) k (ownF_ge (ow_k (ow_k (ow_only (ow_k (ow_only (ow_k r30 o37) s42 (fun k hk => lt_F (oneF_ge hg39) (Nat.le_refl _) k (ownF_lt r30 k hk))) o82) s87 (fun k hk => lt_F (oneF_ge hg84) (size_only O151) k (ownF_lt r30 k hk))) o98) o125) k hk))) k hk)))
      rw [Lnk.rv3 hc46 hm76 hq hc99]
      have O154 : Only NoF w w9 := (Only.trans' o4 o10)
      have O155 : Only NoF w w146 := (o_sg (o_sg (Only.trans' (Only.trans' O94 o98) o125) s142 (size_only o4) (oneF_ge hg12)) s147 (size_only O154) (oneF_ge hg18))
      exact ⟨_, _, _, _, rfl, (ow_low r152 (size_only O22)), (ow_low r153 (size_only O22)), k31, k32, O155⟩

theorem rDeliver_v {w : World} {v : Value} {a : Air} (h : AirV w v a) (hf : Few_ a) (i : Int) : Calls Try.prog 23 #[v, .int .i64 i] w (DelO w (Lnk.deliver a i)) := by
  obtain ⟨v1, v2, rfl, f1, f2⟩ := h
  obtain ⟨A1, c1, rfl, _⟩ := SliceOf.shape f1
  obtain ⟨A2, c2, rfl, _⟩ := SliceOf.shape f2
  exact rDeliver_v_ f1 f2 hf i
end Go.Proofs.Ytocbfobakmieoaa
