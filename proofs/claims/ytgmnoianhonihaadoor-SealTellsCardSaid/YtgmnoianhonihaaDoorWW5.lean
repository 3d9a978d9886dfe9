/-
  The wire's laws: kind, number, small, walked. No condition but the listed variables.
-/
import Derived.Test.YtgmnoianhonihaaDoorWW4
import Derived.Test.YtgmnoianhonihaaDoorWir4
namespace Go.Proofs.YtgmnoianhonihaaDoor
set_option linter.unusedVariables false
set_option linter.unusedSimpArgs false
set_option linter.unusedSectionVars false
open Go.RowKit

section
variable {P : Program} {w : World} {n : Nat} {l : List (Nat × Value)} {a : Act} {dst : Option Tmp} {ty : TypeId} {pos : String} {aft : Array Edge} {g : Option (Nat × Bool)} {x y : Operand}
theorem r_remI {p q : Int} {t yt : TypeId} (H : Fr n l a) (hx : ev l x = some (.int .i64 p)) (hy : ev l y = some (.int .i64 q)) (hq : q ≠ 0) : (execOp a.eval ⟨dst, .binOp .rem t x y yt, ty, pos, aft, g⟩).run P w = .ok (.value (.int .i64 (Int.tmod p q))) w := by
  simp [execOp, H.eval hx, H.eval hy, eqGuard, binOp, Op.intDiv, hq]
theorem r_quoI {p q : Int} {t yt : TypeId} (H : Fr n l a) (hx : ev l x = some (.int .i64 p)) (hy : ev l y = some (.int .i64 q)) (hq : q ≠ 0) (hb : I64 (Int.tdiv p q)) : (execOp a.eval ⟨dst, .binOp .quo t x y yt, ty, pos, aft, g⟩).run P w = .ok (.value (.int .i64 (Int.tdiv p q))) w := by
  have : IntKind.i64.wrap (Int.tdiv p q) = Int.tdiv p q := IntWalk.i64_in _ hb
  simp [execOp, H.eval hx, H.eval hy, eqGuard, binOp, Op.intDiv, hq, this]
theorem eq_bool {t : TypeId} {b c : Bool} (hu : P.underlying t = some .bool) : (Op.equal t (.bool b) (.bool c)).run P w = .ok (b == c) w := by
  have h : ∀ d, (Op.equalIn (d + 1) t (.bool b) (.bool c)).run P w = .ok (b == c) w := fun d => by
    simp only [Op.equalIn, Sem.run_bind, run_underlying hu, Result.andThen_ok, Sem.run_pure]
  exact h 9999
theorem r_eqB {t yt : TypeId} {b c : Bool} (hu : P.underlying t = some .bool) (H : Fr n l a) (hx : ev l x = some (.bool b)) (hy : ev l y = some (.bool c)) : (execOp a.eval ⟨dst, .binOp .eql t x y yt, ty, pos, aft, g⟩).run P w = .ok (.value (.bool (decide (b = c)))) w := by
  have hg : (eqGuard .eql t x y (.bool b) (.bool c)).run P w = .ok () w := by simp [eqGuard]
  have e : (b == c) = decide (b = c) := by cases b <;> cases c <;> rfl
  simp only [execOp, H.eval hx, H.eval hy, Sem.run_bind, hg, Result.andThen_ok, binOp, eq_bool hu, Sem.run_pure, e]
end
theorem fix_eq {P : Program} {f : FuncId} {vs : Array Value} {v v' : Value} {w : World} (h : v = v') (hc : Calls P f vs w (Fix v w)) : Calls P f vs w (Fix v' w) := h ▸ hc
theorem rd_eq {P : Program} {f : FuncId} {vs : Array Value} {v v' : Value} {s s' : Wr.Rd} {g : Nat} {w : World} (h : v = v') (h2 : s = s') (hc : Calls P f vs w (RdTo g v s w)) : Calls P f vs w (RdTo g v' s' w) := by subst h h2; exact hc
theorem it0 : Lib.itoa 0 = [48] := by unfold Lib.itoa; rw [if_neg (by decide), dec_small (by decide)]; decide
theorem it1 : Lib.itoa 1 = [49] := by unfold Lib.itoa; rw [if_neg (by decide), dec_small (by decide)]; decide
theorem it2 : Lib.itoa 2 = [50] := by unfold Lib.itoa; rw [if_neg (by decide), dec_small (by decide)]; decide
theorem it3 : Lib.itoa 3 = [51] := by unfold Lib.itoa; rw [if_neg (by decide), dec_small (by decide)]; decide
theorem it7 : Lib.itoa 7 = [55] := by unfold Lib.itoa; rw [if_neg (by decide), dec_small (by decide)]; decide
theorem itm1 : Lib.itoa (-1) = [45, 49] := by unfold Lib.itoa; rw [if_pos (by decide), dec_small (by decide)]; decide
theorem itm7 : Lib.itoa (-7) = [45, 55] := by unfold Lib.itoa; rw [if_pos (by decide), dec_small (by decide)]; decide
theorem it300 : Lib.itoa 300 = [51, 48, 48] := by unfold Lib.itoa; rw [if_neg (by decide), show (300 : Int).toNat = 300 from rfl, dec_big (by decide), show 300 / 10 = 30 from rfl, dec_big (by decide), show 30 / 10 = 3 from rfl, dec_small (by decide)]; decide
theorem sm1 : Wr.numE 0 = [48, 59] := by unfold Wr.numE Wr.intE; rw [if_neg (by decide), it0]; rfl
theorem sm2 : Wr.numE 300 = [51, 48, 48, 59] := by unfold Wr.numE Wr.intE; rw [if_neg (by decide), it300]; rfl
theorem sm3 : Wr.numE (-1) = [] := by unfold Wr.numE; rw [if_pos (by decide)]
theorem sm4 : Wr.intE (-7) = [45, 55, 59] := by unfold Wr.intE; rw [itm7]; rfl
theorem sm5 : Wr.intE 7 = [55, 59] := by unfold Wr.intE; rw [it7]; rfl
theorem sm6 : Wr.textE [97, 44, 98] = [51, 58, 97, 44, 98, 44] := by unfold Wr.textE; rw [show ((([97, 44, 98] : Str).length : Nat) : Int) = 3 from rfl, it3]; rfl
theorem sm7b : List.flatMap Wr.intE [1, (-1)] = [49, 59, 45, 49, 59] := by simp only [List.flatMap_cons, List.flatMap_nil, Wr.intE]; rw [it1, itm1]; rfl
theorem sm7 : Wr.numsE [1, (-1)] = [50, 91, 49, 59, 45, 49, 59, 93] := by unfold Wr.numsE Wr.listE; rw [sm7b, show ((([1, (-1)] : List Int).length : Nat) : Int) = 2 from rfl, it2]; rfl
theorem sm8 : Wr.textsE [] = [48, 91, 93] := by unfold Wr.textsE Wr.listE; rw [show ((([] : List Str).length : Nat) : Int) = 0 from rfl, it0]; rfl
theorem sm9 : Wr.num ⟨[48, 48, 55, 59], false⟩ = (0, Wr.failed) := by
  rcases Wr.number_cases ⟨[48, 48, 55, 59], false⟩ 59 0 with ⟨h, _⟩ | ⟨n, h0, _, _, h1, _⟩
  · exact h
  · exfalso
    have e : Wr.head 59 [48, 48, 55, 59] = [48, 48, 55] := by decide
    dsimp only at h1
    rw [e] at h1
    have h2 := atoi_itoa n h0.1 h0.2
    rw [← h1, show Lib.atoiAll [48, 48, 55] = .ok 7 by decide] at h2
    injection h2 with h2
    rw [← h2, it7] at h1
    cases h1
set_option maxRecDepth 20000 in
set_option maxHeartbeats 4000000 in
theorem kind_v (w : World) (k : Int) (u1 u2 u3 u4 : Value) (hk : Wr.Ok k) : Calls Tryd.prog 28 [.agg #[.int .i64 k, u1, u2, u3, u4]].toArray w (Fix (.int .i64 (Wr.kind k)) w) := by
  refine calls_start Tryd.func28 rfl rfl ?_
  intro az Hz
  rw [Tryd.ntmps28] at Hz
  refine wp_seq_k fun K1 hK1 => ?_
  -- law.go:31
  refine wp_region_lit ?_
  refine LBox Hz rfl rfl rfl ?_
  clear Hz az; intro g2 w3 hg6 hl7 o4 B5 az Hz
  refine L (r_as Hz rfl) Hz rfl ?_
  clear Hz az; intro az Hz
  refine hK1 _ _ ?_
  refine wp_seq_k fun K8 hK8 => ?_
  -- law.go:32
  refine wp_region_lit ?_
  refine L (r_fa (m' := 0) Tryd.underlying25 rfl Tryd.sizeOf3 rfl Hz rfl rfl) Hz rfl ?_
  clear Hz az; intro az Hz
  refine L (r_ld Tryd.isAgg3 Hz rfl ((Blk.ca B5) 0 _ rfl)) Hz rfl ?_
  clear Hz az; intro az Hz
  refine L (r_remI Hz rfl rfl (by decide)) Hz rfl ?_
  clear Hz az; intro az Hz
  refine L (r_as Hz rfl) Hz rfl ?_
  clear Hz az; intro az Hz
  refine hK8 _ _ ?_
  refine wp_seq_k fun K9 hK9 => ?_
  refine wp_seq_k fun K10 hK10 => ?_
  -- law.go:33
  refine wp_region_lit ?_
  refine L (r_mv Hz rfl) Hz rfl ?_
  clear Hz az; intro az Hz
  refine L (r_ltI Hz rfl rfl) Hz rfl ?_
  clear Hz az; intro az Hz
  refine hK10 _ _ ?_
  refine br Hz rfl (fun hc11 => ?_) (fun hc11 => ?_)
  · -- if0
    have p12 := of_decide_eq_true hc11
    -- law.go:34
    refine wp_region_lit ?_
    refine L (r_mv Hz rfl) Hz rfl ?_
    clear Hz az; intro az Hz
    have i13 : I64 (((Int.tmod k 5) + 5)) := by unfold I64; have := Int.tmod_lt_of_pos k (show (0 : Int) < 5 by decide); have := Int.lt_tmod_of_pos k (show (0 : Int) < 5 by decide); omega
    refine L (r_addI (r := ((Int.tmod k 5) + 5)) Hz rfl rfl rfl i13) Hz rfl ?_
    clear Hz az; intro az Hz
    refine L (r_as Hz rfl) Hz rfl ?_
    clear Hz az; intro az Hz
    refine hK9 _ _ ?_
    refine wp_seq_k fun K14 hK14 => ?_
    -- law.go:36
    refine wp_region_lit ?_
    refine L (r_mv Hz rfl) Hz rfl ?_
    clear Hz az; intro az Hz
    refine L (r_as Hz rfl) Hz rfl ?_
    clear Hz az; intro az Hz
    refine hK14 _ _ ?_
    refine wp_ret ?_
    show bodyPost _ _ _ .ret _ _
    refine ret_of (vs := [.int .i64 (((Int.tmod k 5) + 5))]) Hz Tryd.results28 ⟨rfl, trivial⟩ ?_
    rw [Wr.kind_eq, if_pos (of_decide_eq_true hc11)]
    exact ⟨rfl, o4⟩
  · -- else0
    have p15 := of_decide_eq_false hc11
    refine wp_skip ?_
    refine hK9 _ _ ?_
    refine wp_seq_k fun K16 hK16 => ?_
    -- law.go:36
    refine wp_region_lit ?_
    refine L (r_mv Hz rfl) Hz rfl ?_
    clear Hz az; intro az Hz
    refine L (r_as Hz rfl) Hz rfl ?_
    clear Hz az; intro az Hz
    refine hK16 _ _ ?_
    refine wp_ret ?_
    show bodyPost _ _ _ .ret _ _
    refine ret_of (vs := [.int .i64 ((Int.tmod k 5))]) Hz Tryd.results28 ⟨rfl, trivial⟩ ?_
    rw [Wr.kind_eq, if_neg (of_decide_eq_false hc11)]
    exact ⟨rfl, o4⟩

set_option maxRecDepth 20000 in
set_option maxHeartbeats 4000000 in
theorem absN_v (w : World) (n : Int) (hn : Wr.Ok n) : Calls Tryd.prog 77 [.int .i64 n].toArray w (Fix (.int .i64 (Wr.absN n)) w) := by
  refine calls_start Tryd.func77 rfl rfl ?_
  intro az Hz
  rw [Tryd.ntmps77] at Hz
  refine wp_seq_k fun K1 hK1 => ?_
  -- law.go:40
  refine wp_region_lit ?_
  refine L (r_as Hz rfl) Hz rfl ?_
  clear Hz az; intro az Hz
  refine hK1 _ _ ?_
  refine wp_seq_k fun K2 hK2 => ?_
  refine wp_seq_k fun K3 hK3 => ?_
  -- law.go:41
  refine wp_region_lit ?_
  refine L (r_mv Hz rfl) Hz rfl ?_
  clear Hz az; intro az Hz
  refine L (r_ltI Hz rfl rfl) Hz rfl ?_
  clear Hz az; intro az Hz
  refine hK3 _ _ ?_
  refine br Hz rfl (fun hc4 => ?_) (fun hc4 => ?_)
  · -- if0
    have p5 := of_decide_eq_true hc4
    refine wp_seq_k fun K6 hK6 => ?_
    -- law.go:42
    refine wp_region_lit ?_
    refine L (r_mv Hz rfl) Hz rfl ?_
    clear Hz az; intro az Hz
    have i7 : I64 ((n + 1)) := by unfold I64; unfold Wr.Ok at hn; omega
    refine L (r_addI (r := (n + 1)) Hz rfl rfl rfl i7) Hz rfl ?_
    clear Hz az; intro az Hz
    have i8 : I64 (-((n + 1))) := by unfold I64; unfold Wr.Ok at hn; omega
    refine L (r_neg (r := -((n + 1))) Hz rfl rfl i8) Hz rfl ?_
    clear Hz az; intro az Hz
    refine L (r_as Hz rfl) Hz rfl ?_
    clear Hz az; intro az Hz
    refine hK6 _ _ ?_
    refine wp_ret ?_
    show bodyPost _ _ _ .ret _ _
    refine ret_of (vs := [.int .i64 (-((n + 1)))]) Hz Tryd.results77 ⟨rfl, trivial⟩ ?_
    unfold Wr.absN
    rw [if_pos (of_decide_eq_true hc4)]
    exact ⟨rfl, (Only.refl NoF w)⟩
  · -- else0
    have p9 := of_decide_eq_false hc4
    refine wp_skip ?_
    refine hK2 _ _ ?_
    refine wp_seq_k fun K10 hK10 => ?_
    -- law.go:44
    refine wp_region_lit ?_
    refine L (r_mv Hz rfl) Hz rfl ?_
    clear Hz az; intro az Hz
    refine L (r_as Hz rfl) Hz rfl ?_
    clear Hz az; intro az Hz
    refine hK10 _ _ ?_
    refine wp_ret ?_
    show bodyPost _ _ _ .ret _ _
    refine ret_of (vs := [.int .i64 (n)]) Hz Tryd.results77 ⟨rfl, trivial⟩ ?_
    unfold Wr.absN
    rw [if_neg (of_decide_eq_false hc4)]
    exact ⟨rfl, (Only.refl NoF w)⟩

set_option maxRecDepth 20000 in
set_option maxHeartbeats 4000000 in
theorem small_v {w : World} (hG : Gr w) : Calls Tryd.prog 15 ([] : List Value).toArray w (Fix (.bool true) w) := by
  refine calls_start Tryd.func15 rfl rfl ?_
  intro az Hz
  rw [Tryd.ntmps15] at Hz
  refine wp_seq_k fun K1 hK1 => ?_
  -- law.go:10
  refine wp_region_lit ?_
  refine L (r_as Hz rfl) Hz rfl ?_
  clear Hz az; intro az Hz
  refine hK1 _ _ ?_
  refine wp_seq_k fun K2 hK2 => ?_
  -- law.go:11
  refine wp_region_lit ?_
  have G3 := Gr.k hG (Only.refl NoF w)
  refine LCV (v := strV ([48, 59])) Hz rfl rfl Tryd.call17 (fix_eq (congrArg strV sm1) (Num_v G3 0 (by unfold Wr.Ok; omega))) rfl fun w4 o5 => ?_
  clear Hz az; intro az Hz
  refine L (r_eqRS Hz rfl rfl) Hz rfl ?_
  clear Hz az; intro az Hz
  refine L (r_mv Hz rfl) Hz rfl ?_
  clear Hz az; intro az Hz
  have G6 := Gr.k hG o5
  refine LGV (v := strV ([51, 48, 48, 59])) Hz rfl rfl gd_t rfl (fun hb => rfl) Tryd.call17 (fun hb => fix_eq (congrArg strV sm2) (Num_v G6 300 (by unfold Wr.Ok; omega))) rfl fun w7 o8 => ?_
  clear Hz az; intro az Hz
  refine LT Hz rfl rfl (r_eqRS Hz rfl rfl) rfl ?_
  clear Hz az; intro az Hz
  refine L (r_pick Hz rfl rfl rfl) Hz rfl ?_
  clear Hz az; intro az Hz
  refine L (r_mv Hz rfl) Hz rfl ?_
  clear Hz az; intro az Hz
  have O10 : Only NoF w w7 := (Only.trans' o5 o8)
  have G9 := Gr.k hG O10
  refine LGV (v := strV ([])) Hz rfl rfl gd_t rfl (fun hb => rfl) Tryd.call17 (fun hb => fix_eq (congrArg strV sm3) (Num_v G9 (-1) (by unfold Wr.Ok; omega))) rfl fun w11 o12 => ?_
  clear Hz az; intro az Hz
  refine LT Hz rfl rfl (r_eqRS Hz rfl rfl) rfl ?_
  clear Hz az; intro az Hz
  refine L (r_pick Hz rfl rfl rfl) Hz rfl ?_
  clear Hz az; intro az Hz
  refine L (r_mv Hz rfl) Hz rfl ?_
  clear Hz az; intro az Hz
  have O14 : Only NoF w w11 := (Only.trans' O10 o12)
  have G13 := Gr.k hG O14
  refine LGV (v := strV ([45, 55, 59])) Hz rfl rfl gd_t rfl (fun hb => rfl) Tryd.call19 (fun hb => fix_eq (congrArg strV sm4) (Int_v G13 (-7) (by unfold Wr.Ok; omega))) rfl fun w15 o16 => ?_
  clear Hz az; intro az Hz
  refine LT Hz rfl rfl (r_eqRS Hz rfl rfl) rfl ?_
  clear Hz az; intro az Hz
  refine L (r_pick Hz rfl rfl rfl) Hz rfl ?_
  clear Hz az; intro az Hz
  refine L (r_mv Hz rfl) Hz rfl ?_
  clear Hz az; intro az Hz
  have O18 : Only NoF w w15 := (Only.trans' O14 o16)
  have G17 := Gr.k hG O18
  refine LGV (v := strV ([55, 59])) Hz rfl rfl gd_t rfl (fun hb => rfl) Tryd.call19 (fun hb => fix_eq (congrArg strV sm5) (Int_v G17 7 (by unfold Wr.Ok; omega))) rfl fun w19 o20 => ?_
  clear Hz az; intro az Hz
  refine LT Hz rfl rfl (r_eqRS Hz rfl rfl) rfl ?_
  clear Hz az; intro az Hz
  refine L (r_pick Hz rfl rfl rfl) Hz rfl ?_
  clear Hz az; intro az Hz
  refine L (r_as Hz rfl) Hz rfl ?_
  clear Hz az; intro az Hz
  refine hK2 _ _ ?_
  refine wp_seq_k fun K21 hK21 => ?_
  -- law.go:12
  refine wp_region_lit ?_
  have O23 : Only NoF w w19 := (Only.trans' O18 o20)
  have G22 := Gr.k hG O23
  refine LCV (v := strV ([51, 58, 97, 44, 98, 44])) Hz rfl rfl Tryd.call21 (fix_eq (congrArg strV sm6) (Text_v G22 [97, 44, 98] (by decide))) rfl fun w24 o25 => ?_
  clear Hz az; intro az Hz
  refine L (r_eqRS Hz rfl rfl) Hz rfl ?_
  clear Hz az; intro az Hz
  refine L (r_mv Hz rfl) Hz rfl ?_
  clear Hz az; intro az Hz
  obtain ⟨A26, w27, hw, hA, r28, o29⟩ := Row.made (w := w24) KInt (e := 3) ([1, (-1)] : List Int) (by simp only [List.length_cons, List.length_nil]; unfold maxLen; omega)
  refine LT Hz rfl rfl (r_bs (z := .int .i64 (0)) (size := 1) (vs := [(0, .int .i64 (1)), (1, .int .i64 ((-1)))]) (cs := List.flatMap KInt.cells [1, (-1)]) Tryd.underlying22 Tryd.sizeOf3 Tryd.zeroValue3 rfl (Fr.evalps Hz rfl) (by kernel_rfl)) rfl ?_
  rw [← hw, ← hA]; clear Hz az; intro az Hz
  clear hw hA
  have ok30 : ∀ zq ∈ ([1, (-1)] : List Int), KInt.ok zq := by intro zq hx; simp only [List.mem_cons, List.not_mem_nil, or_false] at hx; rcases hx with rfl | rfl <;> first | exact (by show I64 _; unfold I64; omega) | exact (by show I64 _; unfold I64; omega)
  have O32 : Only NoF w w27 := (Only.trans' (Only.trans' O23 o25) o29)
  have G31 := Gr.k hG O32
  have h33 := Row.own KInt r28 ok30
  have h34 := SliceOf.pl h33
  refine LGV (v := strV ([50, 91, 49, 59, 45, 49, 59, 93])) Hz rfl rfl gd_t rfl (fun hb => rfl) Tryd.call23 (fun hb => fix_eq (congrArg strV sm7) (Nums_v G31 h34 (by decide) (by rw [sm7b]; decide))) rfl fun w35 o36 => ?_
  clear Hz az; intro az Hz
  refine LT Hz rfl rfl (r_eqRS Hz rfl rfl) rfl ?_
  clear Hz az; intro az Hz
  refine L (r_pick Hz rfl rfl rfl) Hz rfl ?_
  clear Hz az; intro az Hz
  refine L (r_mv Hz rfl) Hz rfl ?_
  clear Hz az; intro az Hz
  have O38 : Only NoF w w35 := (Only.trans' O32 o36)
  have G37 := Gr.k hG O38
  refine LGV (v := strV ([48, 91, 93])) Hz rfl rfl gd_t rfl (fun hb => rfl) Tryd.call25 (fun hb => fix_eq (congrArg strV sm8) (Texts_v (l := []) G37 (SliceOf.nil_ _ _ _) (by decide) (by decide))) rfl fun w39 o40 => ?_
  clear Hz az; intro az Hz
  refine LT Hz rfl rfl (r_eqRS Hz rfl rfl) rfl ?_
  clear Hz az; intro az Hz
  refine L (r_pick Hz rfl rfl rfl) Hz rfl ?_
  clear Hz az; intro az Hz
  refine L (r_as Hz rfl) Hz rfl ?_
  clear Hz az; intro az Hz
  refine hK21 _ _ ?_
  refine wp_seq_k fun K41 hK41 => ?_
  -- law.go:13
  refine wp_region_lit ?_
  refine LC Hz rfl rfl Tryd.call27 (Open_v _ [48, 48, 55, 59]) rfl ?_
  rintro e w43 ⟨g42, rfl, hg44, B45, o46⟩; refine ⟨_, rfl, ?_⟩
  clear Hz az; intro az Hz
  refine L (r_as Hz rfl) Hz rfl ?_
  clear Hz az; intro az Hz
  refine hK41 _ _ ?_
  refine wp_seq_k fun K47 hK47 => ?_
  refine wp_seq_k fun K48 hK48 => ?_
  -- law.go:14
  refine wp_region_lit ?_
  refine L (r_mv Hz rfl) Hz rfl ?_
  clear Hz az; intro az Hz
  refine L (r_eqP Tryd.underlying34 Hz rfl rfl) Hz rfl ?_
  clear Hz az; intro az Hz
  refine hK48 _ _ ?_
  refine br_false Hz rfl ?_
  refine wp_skip ?_
  refine hK47 _ _ ?_
  refine wp_seq_k fun K49 hK49 => ?_
  -- law.go:17
  refine wp_region_lit ?_
  refine L (r_mv Hz rfl) Hz rfl ?_
  clear Hz az; intro az Hz
  have O51 : Only NoF w w43 := (Only.trans' (Only.trans' O38 o40) o46)
  have G50 := Gr.k hG O51
  have O52 : Only NoF w w39 := (Only.trans' O38 o40)
  refine LC Hz rfl rfl Tryd.call29 (rd_eq (congrArg (fun p => Value.int .i64 p.1) sm9) (congrArg (·.2) sm9) (rNum_v (s := ⟨[48, 48, 55, 59], false⟩) G50 B45 (Nat.le_trans hG.1 (Nat.le_trans (size_only O52) hg44)) (by decide))) rfl ?_
  rintro e w53 ⟨rfl, B54, o55⟩; refine ⟨_, rfl, ?_⟩
  clear Hz az; intro az Hz
  refine L (r_as Hz rfl) Hz rfl ?_
  clear Hz az; intro az Hz
  refine hK49 _ _ ?_
  refine wp_seq_k fun K56 hK56 => ?_
  -- law.go:18
  refine wp_region_lit ?_
  refine L (r_mv Hz rfl) Hz rfl ?_
  clear Hz az; intro az Hz
  refine L (r_mv Hz rfl) Hz rfl ?_
  clear Hz az; intro az Hz
  refine LT Hz rfl rfl (r_mv Hz rfl) rfl ?_
  clear Hz az; intro az Hz
  refine L (r_pick Hz rfl rfl rfl) Hz rfl ?_
  clear Hz az; intro az Hz
  refine L (r_mv Hz rfl) Hz rfl ?_
  clear Hz az; intro az Hz
  refine LT Hz rfl rfl (r_mv Hz rfl) rfl ?_
  clear Hz az; intro az Hz
  refine LT Hz rfl rfl (r_eqRI Hz rfl rfl) rfl ?_
  clear Hz az; intro az Hz
  refine L (r_pick Hz rfl rfl rfl) Hz rfl ?_
  clear Hz az; intro az Hz
  refine L (r_mv Hz rfl) Hz rfl ?_
  clear Hz az; intro az Hz
  refine LT Hz rfl rfl (r_mv Hz rfl) rfl ?_
  clear Hz az; intro az Hz
  refine LGV (v := .int .i64 (0)) Hz rfl rfl gd_t rfl (fun hb => rfl) Tryd.call34 (fun hb => rLeft_v (s := Wr.failed) B54) rfl fun w57 o58 => ?_
  clear Hz az; intro az Hz
  refine LT Hz rfl rfl (r_eqRI Hz rfl rfl) rfl ?_
  clear Hz az; intro az Hz
  refine L (r_pick Hz rfl rfl rfl) Hz rfl ?_
  clear Hz az; intro az Hz
  refine L (r_mv Hz rfl) Hz rfl ?_
  clear Hz az; intro az Hz
  refine LT Hz rfl rfl (r_mv Hz rfl) rfl ?_
  clear Hz az; intro az Hz
  have B59 := (Blk.k B54 o58)
  refine LGV (v := .bool (false)) Hz rfl rfl gd_t rfl (fun hb => rfl) Tryd.call35 (fun hb => rDone_v (s := Wr.failed) B59) rfl fun w60 o61 => ?_
  clear Hz az; intro az Hz
  refine LT Hz rfl rfl (r_not Hz rfl) rfl ?_
  clear Hz az; intro az Hz
  refine L (r_pick Hz rfl rfl rfl) Hz rfl ?_
  clear Hz az; intro az Hz
  refine L (r_as Hz rfl) Hz rfl ?_
  clear Hz az; intro az Hz
  refine hK56 _ _ ?_
  refine wp_ret ?_
  show bodyPost _ _ _ .ret _ _
  refine ret_of (vs := [.bool (true)]) Hz Tryd.results15 ⟨rfl, trivial⟩ ?_
  have O62 : Only NoF w w60 := (Only.trans' (Only.trans' (o_sg O51 o55 (size_only O52) (oneF_ge hg44)) o58) o61)
  exact ⟨rfl, O62⟩
end Go.Proofs.YtgmnoianhonihaaDoor
