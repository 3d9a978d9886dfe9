/-
  Acts among the arguments of the store's laws opened. No condition.
  StoreTells, walked: it returns true. No condition but the listed variables.
-/
import Derived.Test.YtdegmpigkgkafaaGreatDoorSOpen
import Derived.Test.YtdegmpigkgkafaaGreatDoorJOp
import Derived.Test.YtdegmpigkgkafaaGreatDoorStB
namespace Go.Proofs.YtdegmpigkgkafaaGreatDoor
set_option linter.unusedVariables false
set_option linter.unusedSimpArgs false
set_option linter.unusedSectionVars false
section
open Go.ChangeShapes Go.WideShapes Go.ChangeAt Go.RowKit Go.Deep
section
variable {H : Type} {enc : TypeId × Value → H} {w : World} {base : Nat} {spare : Nat → Bool} {held : Bool}
theorem cells_Act : Tryz.prog.cellsOf 39 = 6 := by kernel_rfl
theorem open_IntsA {fuel : Nat} {cs : List Value} {x : DataW H × List MemPlace} (h : DataW.trod enc Tryz.prog w base spare held fuel 37 cs = some x) : ∃ A c l, cs = [.slice A (List.length l) c] ∧ IntsV w (.slice A l.length c) l := by
 obtain ⟨v, l, e, h⟩ := open_IntsS h
 obtain ⟨A, c, rfl, _⟩ := SliceOf.shape h
 exact ⟨A, c, l, e, h⟩
theorem open_ActC {fuel : Nat} {cs : List Value} {x : DataW H × List MemPlace} (hl : cs.length = 6) (h : DataW.trod enc Tryz.prog w base spare held fuel 39 cs = some x) : ∃ m : ActM, cs = (KAct w).cells m ∧ (KAct w).ok m := by
 obtain ⟨n', hf⟩ := trod_fields Tryz.underlying39 (by kernel_rfl) h hl
 match cs, hl with
 | [c0, c1, c2, c3, c4, c5], _ =>
  obtain ⟨_, y0, k0, f0⟩ := hf 0 _ rfl
  obtain ⟨_, y1, k1, f1⟩ := hf 1 _ rfl
  obtain ⟨_, y2, k2, f2⟩ := hf 2 _ rfl
  obtain ⟨_, y3, k3, f3⟩ := hf 3 _ rfl
  obtain ⟨_, y4, k4, f4⟩ := hf 4 _ rfl
  obtain ⟨_, y5, k5, f5⟩ := hf 5 _ rfl
  simp only [List.getElem?_cons_zero, List.getElem?_cons_succ, Option.some.injEq] at k0 k1 k2 k3 k4 k5
  subst k0 k1 k2 k3 k4 k5
  obtain ⟨n0, h0, _, w0⟩ := DataW.trod_int Tryz.underlying3 f0
  obtain ⟨n1, h1, _, w1⟩ := DataW.trod_int Tryz.underlying3 f1
  obtain ⟨n2, h2, _, w2⟩ := DataW.trod_int Tryz.underlying3 f2
  obtain ⟨A3, d3, l3, h3, w3⟩ := open_RefsV f3
  obtain ⟨s4, h4, _, w4⟩ := DataW.trod_string Tryz.underlying9 f4
  obtain ⟨A5, d5, l5, h5, w5⟩ := open_IntsA f5
  simp only [List.cons.injEq, and_true] at h0 h1 h2 h3 h4 h5
  subst h0 h1 h2 h3 h4 h5
  exact ⟨⟨n0, n1, n2, A3, l3, d3, s4.data.toList, A5, l5, d5⟩, rfl, wf_I64 w0, wf_I64 w1, wf_I64 w2, w3, by simpa using w4, w5⟩
set_option maxRecDepth 100000 in
theorem open_Acts {fuel : Nat} {cs : List Value} {x : DataW H × List MemPlace} (h : DataW.trod enc Tryz.prog w base spare held fuel 22 cs = some x) : ∃ v l, cs = [v] ∧ ActsV w w v l := by
 obtain ⟨v, l, e, h⟩ := open_sliceOf Tryz.underlying22 cells_Act (by decide) (KAct w).R (fun n cs y hl hy => by
  obtain ⟨m, h1, h2⟩ := open_ActC hl hy
  exact ⟨m, h1, h2⟩) h
 exact ⟨v, l, e, h.sup fun _ _ => trivial⟩
end
end
section
open Go.RowKit
theorem r_eqS1 {P : Program} {w : World} {n : Nat} {l : List (Nat × Value)} {a : Act} {dst : Option Tmp} {ty : TypeId} {pos : String} {aft : Array Edge} {g : Option (Nat × Bool)} {x y : Operand} {t yt e : TypeId} {oo : OS} (hu : P.underlying t = some (.pointer e)) (H : Fr n l a) (hx : ev l x = some (sp (oo.map q1))) (hy : ev l y = some (.pointer none)) : (execOp a.eval ⟨dst, .binOp .eql t x y yt, ty, pos, aft, g⟩).run P w = .ok (.value (.bool (!oo.isSome))) w := by
 rcases oo with _ | ⟨_, _, _, _, _⟩
 · exact r_eqNN hu H hx hy
 · exact r_eqP hu H hx hy
theorem r_eqS2 {P : Program} {w : World} {n : Nat} {l : List (Nat × Value)} {a : Act} {dst : Option Tmp} {ty : TypeId} {pos : String} {aft : Array Edge} {g : Option (Nat × Bool)} {x y : Operand} {t yt e : TypeId} {oo : OS} (hu : P.underlying t = some (.pointer e)) (H : Fr n l a) (hx : ev l x = some (sp (oo.map q2))) (hy : ev l y = some (.pointer none)) : (execOp a.eval ⟨dst, .binOp .eql t x y yt, ty, pos, aft, g⟩).run P w = .ok (.value (.bool (!oo.isSome))) w := by
 rcases oo with _ | ⟨_, _, _, _, _⟩
 · exact r_eqNN hu H hx hy
 · exact r_eqP hu H hx hy
theorem si_some {g jg g2 kg : Nat} {J : Jn} {h : Int} (hs : SI h J) : ∀ x, (some (g, jg, g2, kg, J) : OS) = some x → SI h x.2.2.2.2 := by
 intro x e
 rw [← Option.some.inj e]; exact hs
theorem si_none {h : Int} : ∀ x, (none : OS) = some x → SI h x.2.2.2.2 := by
 intro x e; cases e
set_option maxRecDepth 20000 in
set_option maxHeartbeats 4000000 in
theorem stells_v_ {w : World} (hG : Gr w) {l : List ActM} {A1 : Option Addr} {c1 : Nat} (f1 : ActsV w w (.slice A1 l.length c1) l) {h : Int} (hh : I64 h) : Calls Tryz.prog 3 [.slice A1 l.length c1, .int .i64 h].toArray w (Fix (.bool true) w) := by
 refine calls_start Tryz.func3 rfl rfl ?_
 intro az Z
 rw [Tryz.ntmps3] at Z
 refine wp_seq_k fun K1 hK1 => wp_region_lit ?_
 refine L (r_as Z rfl) Z rfl ?_; clear Z az; intro az Z
 refine hK1 _ _ (wp_seq_k fun K2 hK2 => wp_region_lit ?_)
 have G3 := Gr.k hG (Only.refl NoF w)
 refine LCV (v := .bool (true)) Z rfl rfl Tryz.call4 (sane40_v G3) rfl fun w4 o5 => ?_; clear Z az; intro az Z
 refine L (r_as Z rfl) Z rfl ?_; clear Z az; intro az Z
 refine hK2 _ _ (wp_seq_k fun K6 hK6 => ?_)
 refine wp_seq_k fun K7 hK7 => wp_region_lit ?_
 refine L (r_mv Z rfl) Z rfl ?_; clear Z az; intro az Z
 refine LCE Z rfl rfl Tryz.call5 (fewA_v_ (SliceOf.kp (acts_up f1 o5) o5 (fun _ _ h => h) (fun _ _ _ _ h => h))) rfl fun b10 w8 hs11 o9 => ?_; clear Z az; intro az Z
 refine L (r_not Z rfl) Z rfl ?_; clear Z az; intro az Z
 refine hK7 _ _ ?_
 refine br Z rfl (fun hc12 => ?_) (fun hc12 => ?_)
 ·
  have q13 : b10 = false := (nt_t hc12)
  refine wp_seq_k fun K14 hK14 => wp_region_lit ?_
  refine L (r_mv Z rfl) Z rfl ?_; clear Z az; intro az Z
  refine L (r_as Z rfl) Z rfl ?_; clear Z az; intro az Z
  refine hK14 _ _ ?_
  refine wp_ret ?_
  show bodyPost _ _ _ .ret _ _
  refine ret_of (vs := [.bool (true)]) Z Tryz.results3 ⟨rfl, trivial⟩ ?_
  have O15 : Only NoF w w8 := (Only.trans' o5 o9)
  exact ⟨rfl, O15⟩
 ·
  have q16 : b10 = true := (nt_f hc12)
  have S17 := hs11 q16
  have hfo := S17; have hfl := hfo.1
  refine wp_skip ?_
  refine hK6 _ _ (wp_seq_k fun K18 hK18 => wp_region_lit ?_)
  refine LC Z rfl rfl Tryz.call6 (dNew_l _) rfl ?_
  rintro e w21 ⟨b19, F20, rfl, h22, o23, hge24⟩; refine ⟨_, rfl, ?_⟩
  have h25 : SO b19 Dsk.init h none w21 F20 := h22
  clear Z az; intro az Z
  refine L (r_as Z rfl) Z rfl ?_; clear Z az; intro az Z
  refine hK18 _ _ (wp_seq_k fun K26 hK26 => wp_region_lit ?_)
  refine LC Z rfl rfl Tryz.call7 (rNew_c _) rfl ?_
  rintro e w29 ⟨c27, rfl, F28, h30, o31, hge32⟩; refine ⟨_, rfl, ?_⟩
  obtain ⟨hb33, hge34⟩ := both_new2 h25 hge24 (size_only o23) h30 o31 hge32
  obtain ⟨F35, hF35⟩ : ∃ G : Foot, G = (⟨fun k => F20.m k ∨ F28.m k, fun k => F20.r k ∨ F28.r k⟩ : Foot) := ⟨_, rfl⟩
  rw [← hF35] at hb33 hge34
  clear Z az; intro az Z
  refine L (r_as Z rfl) Z rfl ?_; clear Z az; intro az Z
  refine hK26 _ _ (wp_seq_k fun K36 hK36 => ?_)
  refine wp_seq_k fun K37 hK37 => wp_region_lit ?_
  refine L (r_mv Z rfl) Z rfl ?_; clear Z az; intro az Z
  refine L (r_eqP Tryz.underlying25 Z rfl rfl) Z rfl ?_; clear Z az; intro az Z
  refine hK37 _ _ ?_
  refine br_false Z rfl ?_
  refine wp_skip ?_
  refine hK36 _ _ (wp_seq_k fun K38 hK38 => wp_region_lit ?_)
  refine L (r_mv Z rfl) Z rfl ?_; clear Z az; intro az Z
  refine L (r_mv Z rfl) Z rfl ?_; clear Z az; intro az Z
  have hOk47 := (both_r hb33).elim fun _ q => (ro_disk q).elim fun _ q => refok q.1
  have O49 : Only NoF w w29 := (Only.trans' (Only.trans' (Only.trans' o5 o9) o23) o31)
  have G48 := Gr.k hG O49
  have O50 : Only NoF w w8 := (Only.trans' o5 o9)
  refine LC Z rfl rfl Tryz.call8 (l_sopen (os := none) (h0 := h) (ro_good _ _ _ _) G48 hb33 (fun k hk => Nat.le_trans (Nat.le_trans hG.1 (size_only O50)) (hge34 k (.inl hk)))) rfl ?_
  rintro e w40 ⟨oj39, hm42, rfl, F41, h43, o44, fm45, fr46⟩; refine ⟨_, rfl, ?_⟩
  have O51 : Only NoF w8 w29 := (Only.trans' o23 o31)
  have hge52 := ge_next hge34 (size_only O51) fm45 fr46
  clear Z az; intro az Z
  refine L (r_mv Z rfl) Z rfl ?_; clear Z az; intro az Z
  refine L (r_ex Z rfl rfl) Z rfl ?_; clear Z az; intro az Z
  refine L (r_ex Z rfl rfl) Z rfl ?_; clear Z az; intro az Z
  refine L (r_as Z rfl) Z rfl ?_; clear Z az; intro az Z
  refine L (r_as Z rfl) Z rfl ?_; clear Z az; intro az Z
  refine hK38 _ _ (wp_seq_k fun K53 hK53 => wp_region_lit ?_)
  refine L (r_mv Z rfl) Z rfl ?_; clear Z az; intro az Z
  refine L (r_mv Z rfl) Z rfl ?_; clear Z az; intro az Z
  refine LC Z rfl rfl Tryz.call9 (r_sopen (os := none) (h0 := h) (so_good _ _ _ _) h43) rfl ?_
  rintro e w55 ⟨ok54, hm57, rfl, F56, h58, o59, fm60, fr61⟩; refine ⟨_, rfl, ?_⟩
  obtain ⟨oo62, e63, e64⟩ := os_join (hm42.trans hm57.symm); subst e63 e64
  have hji65 : ∀ x, oo62 = some x → SI h x.2.2.2.2 := fun x e => si_open hOk47 (hm42.symm.trans (by rw [e]; rfl))
  have O66 : Only NoF w8 w40 := (o_sg O51 o44 (Nat.le_refl _) (fun k h => hge34 k (.inl h)))
  have hge67 := ge_next hge52 (size_only O66) fm60 fr61
  clear Z az; intro az Z
  refine L (r_mv Z rfl) Z rfl ?_; clear Z az; intro az Z
  refine L (r_ex Z rfl rfl) Z rfl ?_; clear Z az; intro az Z
  refine L (r_ex Z rfl rfl) Z rfl ?_; clear Z az; intro az Z
  refine L (r_as Z rfl) Z rfl ?_; clear Z az; intro az Z
  refine L (r_as Z rfl) Z rfl ?_; clear Z az; intro az Z
  refine hK53 _ _ (wp_seq_k fun K68 hK68 => ?_)
  refine wp_seq_k fun K69 hK69 => wp_region_lit ?_
  refine L (r_as Z rfl) Z rfl ?_; clear Z az; intro az Z
  refine hK69 _ _ ?_
  refine wp_block ?_
  refine wp_loop_m (fun mz az W => ∃ i : Nat, ∃ D : Dsk, ∃ oo : OS, ∃ er : Int, ∃ F : Foot, mz = l.length - i ∧ Fr 186 [(0, .slice A1 (l.length) c1), (1, .int .i64 (h)), (5, .bool (true)), (6, .pointer (some ⟨b19, 0, none⟩)), (7, .pointer (some ⟨c27, 0, none⟩)), (12, .int .i64 ((i : Int))), (8, sp (oo.map q1)), (10, sp (oo.map q2)), (9, .int .i64 (er)), (11, .int .i64 (er))] az ∧ (i ≤ l.length) ∧ (∀ x, oo = some x → SI h x.2.2.2.2) ∧ Only NoF w W ∧ BothT (SO b19 D h (oo.map q1)) (RO c27 D h (oo.map q2)) W F ∧ (∀ k, F.all k → w.heap.size ≤ k)) ?_ ?_
  ·
   have O70 : Only NoF w w55 := (o_sg (o_sg O49 o44 (size_only O50) (fun k h => hge34 k (.inl h))) o59 (size_only O50) (fun k h => hge52 k (.inl h)))
   exact ⟨_, 0, (openS Dsk.init h).1, oo62, (openS Dsk.init h).2.1, F56, rfl, Z.cut ⟨rfl, rfl, rfl, rfl, rfl, rfl, rfl, rfl, rfl, rfl, trivial⟩, Nat.zero_le _, hji65, O70, h58, (fun k hk => Nat.le_trans (size_only O50) (hge67 k hk))⟩
  clear Z az
  rintro mz az w71 ⟨i, D, oo, er, F, hm73, Z, hi, hji, o72, hT, hgeT⟩
  refine wp_seq_k fun K74 hK74 => ?_
  refine wp_seq_k fun K75 hK75 => wp_region_lit ?_
  refine L (r_mv Z rfl) Z rfl ?_; clear Z az; intro az Z
  refine L (r_mv Z rfl) Z rfl ?_; clear Z az; intro az Z
  refine L (r_lenL Tryz.underlying22 Z rfl) Z rfl ?_; clear Z az; intro az Z
  refine L (r_ltI Z rfl rfl) Z rfl ?_; clear Z az; intro az Z
  refine hK75 _ _ ?_
  refine br Z rfl (fun hc76 => ?_) (fun hc76 => ?_)
  ·
   have p77 := of_decide_eq_true hc76
   refine wp_skip ?_
   refine hK74 _ _ (wp_seq_k fun K78 hK78 => ?_)
   refine wp_block ?_
   refine wp_seq_k fun K79 hK79 => ?_
   refine wp_seq_k fun K80 hK80 => wp_region_lit ?_
   refine L (r_mv Z rfl) Z rfl ?_; clear Z az; intro az Z
   refine L (r_mv Z rfl) Z rfl ?_; clear Z az; intro az Z
   refine L (r_neRI Z rfl rfl) Z rfl ?_; clear Z az; intro az Z
   refine L (r_mv Z rfl) Z rfl ?_; clear Z az; intro az Z
   refine LT Z rfl rfl (r_mv Z rfl) rfl ?_; clear Z az; intro az Z
   refine LT Z rfl rfl (r_eqS1 Tryz.underlying29 Z rfl rfl) rfl ?_; clear Z az; intro az Z
   refine LT Z rfl rfl (r_mv Z rfl) rfl ?_; clear Z az; intro az Z
   refine LT Z rfl rfl (r_eqS2 Tryz.underlying33 Z rfl rfl) rfl ?_; clear Z az; intro az Z
   refine LT Z rfl rfl (r_neBs Tryz.underlying4 Z rfl rfl) rfl ?_; clear Z az; intro az Z
   refine L (r_pick Z rfl rfl rfl) Z rfl ?_; clear Z az; intro az Z
   refine hK80 _ _ ?_
   refine br_false Z rfl ?_
   refine wp_skip ?_
   refine hK79 _ _ (wp_seq_k fun K81 hK81 => wp_region_lit ?_)
   refine L (r_mv Z rfl) Z rfl ?_; clear Z az; intro az Z
   refine L (r_mv Z rfl) Z rfl ?_; clear Z az; intro az Z
   have hk82 : i < (l).length := by omega
   have h88 := (SliceOf.kp f1 o72 (fun _ _ h => h) (fun _ _ _ _ h => h))
   obtain ⟨m83, hm84, ok85, hA86⟩ := Row.el (KAct w) h88 hk82
   have E87 : ∀ W, Only NoF w71 W → CA W (eA A1 6 (i)) [.int .i64 (m83.k), .int .i64 (m83.d), .int .i64 (m83.n), .slice m83.A (m83.q.length) m83.c, strV (m83.s), .slice m83.B (m83.l.length) m83.e] := Row.ce (KAct w) h88 hm84 rfl
   refine L (r_ia (k := i) (size := 6) Tryz.underlying22 Tryz.sizeOf39 Z rfl rfl rfl hk82 hA86) Z rfl ?_; clear Z az; intro az Z
   refine L (r_ldA Tryz.isAgg39 Tryz.sizeOf39 Z rfl (E87 _ (Only.refl NoF w71)) rfl) Z rfl ?_; clear Z az; intro az Z
   refine LAl (v := .agg #[.int .i64 (0), .int .i64 (0), .int .i64 (0), .slice none (0) 0, strV ([]), .slice none (0) 0]) Tryz.zeroValue39 Z rfl rfl ?_
   clear Z az; intro g89 w90 hg93 hl94 o91 B92 az Z
   refine LSt (cs' := [.int .i64 (m83.k), .int .i64 (m83.d), .int .i64 (m83.n), .slice m83.A (m83.q.length) m83.c, strV (m83.s), .slice m83.B (m83.l.length) m83.e]) Tryz.sizeOf39 Z rfl rfl rfl rfl rfl ⟨rfl, rfl, rfl, rfl, rfl, rfl, trivial⟩ B92 rfl rfl fun w95 s96 B97 => ?_
   refine hK81 _ _ ?_
   refine wp_join (fun az W => ∃ D2 : Dsk, ∃ o2 : OS, ∃ er2 : Int, ∃ F2 : Foot, Fr 186 [(0, .slice A1 (l.length) c1), (1, .int .i64 (h)), (5, .bool (true)), (6, .pointer (some ⟨b19, 0, none⟩)), (7, .pointer (some ⟨c27, 0, none⟩)), (12, .int .i64 ((i : Int))), (13, .pointer (some ((⟨g89, 0, none⟩ : Addr)))), (8, sp (o2.map q1)), (10, sp (o2.map q2)), (9, .int .i64 (er2)), (11, .int .i64 (er2))] az ∧ (∀ x, o2 = some x → SI h x.2.2.2.2) ∧ Only NoF w W ∧ Blk W g89 39 [.int .i64 (m83.k), .int .i64 (m83.d), .int .i64 (m83.n), .slice m83.A (m83.q.length) m83.c, strV (m83.s), .slice m83.B (m83.l.length) m83.e].toArray ∧ BothT (SO b19 D2 h (o2.map q1)) (RO c27 D2 h (o2.map q2)) W F2 ∧ (∀ k, F2.all k → w.heap.size ≤ k) ∧ (¬ Foot.all F2 g89)) ?_ ?_
   ·
    refine wp_seq_k fun K98 hK98 => wp_region_lit ?_
    refine L (r_fa (m' := 0) Tryz.underlying39 rfl Tryz.sizeOf3 rfl Z rfl rfl) Z rfl ?_; clear Z az; intro az Z
    refine L (r_ld Tryz.isAgg3 Z rfl ((Blk.ca B97) 0 _ rfl)) Z rfl ?_; clear Z az; intro az Z
    refine hK98 _ _ ?_
    refine wp_block ?_
    refine wp_seq_k fun K99 hK99 => wp_region_lit ?_
    refine L (r_eqI Z rfl rfl) Z rfl ?_; clear Z az; intro az Z
    refine L (r_as Z rfl) Z rfl ?_; clear Z az; intro az Z
    refine hK99 _ _ ?_
    refine br Z rfl (fun hc100 => ?_) (fun hc100 => ?_)
    ·
     have p101 := of_decide_eq_true hc100
     refine wp_seq_k fun K102 hK102 => wp_region_lit ?_
     refine L (r_mv Z rfl) Z rfl ?_; clear Z az; intro az Z
     refine L (r_fa (m' := 2) Tryz.underlying39 rfl Tryz.sizeOf3 rfl Z rfl rfl) Z rfl ?_; clear Z az; intro az Z
     refine L (r_ld Tryz.isAgg3 Z rfl ((Blk.ca B97) 2 _ rfl)) Z rfl ?_; clear Z az; intro az Z
     have T103 : (BothT (SO b19 D h (oo.map q1)) (RO c27 D h (oo.map q2))) w95 F := ((BothT.good (so_good _ _ _ _) (ro_good _ _ _ _)).only ((BothT.good (so_good _ _ _ _) (ro_good _ _ _ _)).only hT o91 (fun _ _ h => h)) s96 (fun k hk (e : k = g89) => (fun h => absurd ((BothT.good (so_good _ _ _ _) (ro_good _ _ _ _)).lt hT _ h) (Nat.not_lt.2 (Nat.le_trans (Nat.le_refl _) hg93))) (by rw [← e]; exact hk)))
     refine LC Z rfl rfl Tryz.call10 (l_lose2 (os := (oo.map q1)) (n := m83.n) (ro_good _ _ _ _) T103 ok85.2.2.1) rfl ?_
     rintro e w104 ⟨rfl, F105, h106, o107, fm108, fr109⟩; refine ⟨_, rfl, ?_⟩
     have O110 : Only NoF w w95 := (o_sg (Only.trans' o72 o91) s96 (size_only o72) (oneF_ge hg93))
     have hge111 := ge_next hgeT (size_only O110) fm108 fr109
     clear Z az; intro az Z
     refine hK102 _ _ ?_
     refine wp_region_lit ?_
     refine L (r_mv Z rfl) Z rfl ?_; clear Z az; intro az Z
     refine L (r_fa (m' := 2) Tryz.underlying39 rfl Tryz.sizeOf3 rfl Z rfl rfl) Z rfl ?_; clear Z az; intro az Z
     have B112 := (Blk.only B97 o107 (fun h => (fun h => absurd ((BothT.good (so_good _ _ _ _) (ro_good _ _ _ _)).lt hT _ h) (Nat.not_lt.2 (Nat.le_trans (Nat.le_refl _) hg93))) (.inl h)))
     refine L (r_ld Tryz.isAgg3 Z rfl ((Blk.ca B112) 2 _ rfl)) Z rfl ?_; clear Z az; intro az Z
     refine LC Z rfl rfl Tryz.call11 (r_lose2 (os := (oo.map q2)) (n := m83.n) (so_good _ _ _ _) h106 ok85.2.2.1) rfl ?_
     rintro e w113 ⟨rfl, F114, h115, o116, fm117, fr118⟩; refine ⟨_, rfl, ?_⟩
     have O119 : Only NoF w w104 := (o_sg O110 o107 (Nat.le_refl _) (fun k h => hgeT k (.inl h)))
     have hge120 := ge_next hge111 (size_only O119) fm117 fr118
     clear Z az; intro az Z
     have O121 := (Only.trans (Only.trans (Only.refl (fun _ => True) w90) s96 (fun _ _ => .inl trivial)) o107 (fun _ _ => .inl trivial))
     have O123 := (Only.trans (Only.refl (fun _ => True) w90) s96 (fun _ _ => .inl trivial))
     have sp124 : ¬ Foot.all F105 g89 := sep_next (fun h => absurd ((BothT.good (so_good _ _ _ _) (ro_good _ _ _ _)).lt hT _ h) (Nat.not_lt.2 (Nat.le_trans (Nat.le_refl _) hg93))) (Nat.lt_of_lt_of_le hl94 (size_only O123)) fm108 fr109
     have sp122 : ¬ Foot.all F114 g89 := sep_next sp124 (Nat.lt_of_lt_of_le hl94 (size_only O121)) fm117 fr118
     have O125 : Only NoF w w113 := (o_sg O119 o116 (Nat.le_refl _) (fun k h => hge111 k (.inl h)))
     have B126 := (Blk.only B112 o116 (fun h => sp124 (.inl h)))
     exact ⟨(Dsk.lose D m83.n), oo, er, F114, Z.cut ⟨rfl, rfl, rfl, rfl, rfl, rfl, rfl, rfl, rfl, rfl, rfl, trivial⟩, hji, O125, B126, h115, hge120, sp122⟩
    ·
     have p127 := of_decide_eq_false hc100
     refine wp_seq_k fun K128 hK128 => wp_region_lit ?_
     refine L (r_eqI Z rfl rfl) Z rfl ?_; clear Z az; intro az Z
     refine L (r_as Z rfl) Z rfl ?_; clear Z az; intro az Z
     refine hK128 _ _ ?_
     refine br Z rfl (fun hc129 => ?_) (fun hc129 => ?_)
     ·
      have p130 := of_decide_eq_true hc129
      refine wp_seq_k fun K131 hK131 => wp_region_lit ?_
      refine L (r_mv Z rfl) Z rfl ?_; clear Z az; intro az Z
      refine L (r_fa (m' := 2) Tryz.underlying39 rfl Tryz.sizeOf3 rfl Z rfl rfl) Z rfl ?_; clear Z az; intro az Z
      refine L (r_ld Tryz.isAgg3 Z rfl ((Blk.ca B97) 2 _ rfl)) Z rfl ?_; clear Z az; intro az Z
      refine L (r_fa (m' := 5) Tryz.underlying39 rfl Tryz.sizeOf37 rfl Z rfl rfl) Z rfl ?_; clear Z az; intro az Z
      refine L (r_ld Tryz.isAgg37 Z rfl ((Blk.ca B97) 5 _ rfl)) Z rfl ?_; clear Z az; intro az Z
      have T132 : (BothT (SO b19 D h (oo.map q1)) (RO c27 D h (oo.map q2))) w95 F := ((BothT.good (so_good _ _ _ _) (ro_good _ _ _ _)).only ((BothT.good (so_good _ _ _ _) (ro_good _ _ _ _)).only hT o91 (fun _ _ h => h)) s96 (fun k hk (e : k = g89) => (fun h => absurd ((BothT.good (so_good _ _ _ _) (ro_good _ _ _ _)).lt hT _ h) (Nat.not_lt.2 (Nat.le_trans (Nat.le_refl _) hg93))) (by rw [← e]; exact hk)))
      have O133 : Only NoF w w95 := (o_sg (Only.trans' o72 o91) s96 (size_only o72) (oneF_ge hg93))
      refine LC Z rfl rfl Tryz.call12 (l_arm2 (os := (oo.map q1)) (n := m83.n) (ro_good _ _ _ _) T132 ok85.2.2.2.2.2 O133 (by have := (hfo.2 _ (List.mem_of_getElem? hm84)).2.1; omega) ok85.2.2.1) rfl ?_
      rintro e w134 ⟨rfl, F135, h136, o137, fm138, fr139⟩; refine ⟨_, rfl, ?_⟩
      have hge140 := ge_next hgeT (size_only O133) fm138 fr139
      clear Z az; intro az Z
      refine hK131 _ _ ?_
      refine wp_region_lit ?_
      refine L (r_mv Z rfl) Z rfl ?_; clear Z az; intro az Z
      refine L (r_fa (m' := 2) Tryz.underlying39 rfl Tryz.sizeOf3 rfl Z rfl rfl) Z rfl ?_; clear Z az; intro az Z
      have B141 := (Blk.only B97 o137 (fun h => (fun h => absurd ((BothT.good (so_good _ _ _ _) (ro_good _ _ _ _)).lt hT _ h) (Nat.not_lt.2 (Nat.le_trans (Nat.le_refl _) hg93))) (.inl h)))
      refine L (r_ld Tryz.isAgg3 Z rfl ((Blk.ca B141) 2 _ rfl)) Z rfl ?_; clear Z az; intro az Z
      refine L (r_fa (m' := 5) Tryz.underlying39 rfl Tryz.sizeOf37 rfl Z rfl rfl) Z rfl ?_; clear Z az; intro az Z
      refine L (r_ld Tryz.isAgg37 Z rfl ((Blk.ca B141) 5 _ rfl)) Z rfl ?_; clear Z az; intro az Z
      have O142 : Only NoF w w134 := (o_sg O133 o137 (Nat.le_refl _) (fun k h => hgeT k (.inl h)))
      refine LC Z rfl rfl Tryz.call13 (r_arm2 (os := (oo.map q2)) (n := m83.n) (so_good _ _ _ _) h136 ok85.2.2.2.2.2 O142 (by have := (hfo.2 _ (List.mem_of_getElem? hm84)).2.1; omega) ok85.2.2.1 (fun k hk => Nat.le_trans (Nat.le_refl _) (hge140 k (.inl hk)))) rfl ?_
      rintro e w143 ⟨rfl, F144, h145, o146, fm147, fr148⟩; refine ⟨_, rfl, ?_⟩
      have hge149 := ge_next hge140 (size_only O142) fm147 fr148
      clear Z az; intro az Z
      have O150 := (Only.trans (Only.trans (Only.refl (fun _ => True) w90) s96 (fun _ _ => .inl trivial)) o137 (fun _ _ => .inl trivial))
      have O152 := (Only.trans (Only.refl (fun _ => True) w90) s96 (fun _ _ => .inl trivial))
      have sp153 : ¬ Foot.all F135 g89 := sep_next (fun h => absurd ((BothT.good (so_good _ _ _ _) (ro_good _ _ _ _)).lt hT _ h) (Nat.not_lt.2 (Nat.le_trans (Nat.le_refl _) hg93))) (Nat.lt_of_lt_of_le hl94 (size_only O152)) fm138 fr139
      have sp151 : ¬ Foot.all F144 g89 := sep_next sp153 (Nat.lt_of_lt_of_le hl94 (size_only O150)) fm147 fr148
      have O154 : Only NoF w w143 := (o_sg O142 o146 (Nat.le_refl _) (fun k h => hge140 k (.inl h)))
      have B155 := (Blk.only B141 o146 (fun h => sp153 (.inl h)))
      exact ⟨(Dsk.arm D m83.n m83.l), oo, er, F144, Z.cut ⟨rfl, rfl, rfl, rfl, rfl, rfl, rfl, rfl, rfl, rfl, rfl, trivial⟩, hji, O154, B155, h145, hge149, sp151⟩
     ·
      have p156 := of_decide_eq_false hc129
      refine wp_seq_k fun K157 hK157 => ?_
      refine wp_seq_k fun K158 hK158 => wp_region_lit ?_
      refine L (r_eqI Z rfl rfl) Z rfl ?_; clear Z az; intro az Z
      refine L (r_as Z rfl) Z rfl ?_; clear Z az; intro az Z
      refine hK158 _ _ ?_
      refine br Z rfl (fun hc159 => ?_) (fun hc159 => ?_)
      ·
       have p160 := of_decide_eq_true hc159
       refine wp_skip ?_
       refine hK157 _ _ ?_
       refine br_true Z (kb_ev rfl hc159) ?_
       refine wp_seq_k fun K161 hK161 => ?_
       refine wp_seq_k fun K162 hK162 => wp_region_lit ?_
       refine L (r_fa (m' := 0) Tryz.underlying39 rfl Tryz.sizeOf3 rfl Z rfl rfl) Z rfl ?_; clear Z az; intro az Z
       refine L (r_ld Tryz.isAgg3 Z rfl ((Blk.ca B97) 0 _ rfl)) Z rfl ?_; clear Z az; intro az Z
       refine L (r_eqI Z rfl rfl) Z rfl ?_; clear Z az; intro az Z
       refine hK162 _ _ ?_
       refine br_true Z (kb_ev rfl hc159) ?_
       refine wp_seq_k fun K163 hK163 => wp_region_lit ?_
       refine L (r_mv Z rfl) Z rfl ?_; clear Z az; intro az Z
       refine L (r_fa (m' := 5) Tryz.underlying39 rfl Tryz.sizeOf37 rfl Z rfl rfl) Z rfl ?_; clear Z az; intro az Z
       refine L (r_ld Tryz.isAgg37 Z rfl ((Blk.ca B97) 5 _ rfl)) Z rfl ?_; clear Z az; intro az Z
       have T164 : (BothT (SO b19 D h (oo.map q1)) (RO c27 D h (oo.map q2))) w95 F := ((BothT.good (so_good _ _ _ _) (ro_good _ _ _ _)).only ((BothT.good (so_good _ _ _ _) (ro_good _ _ _ _)).only hT o91 (fun _ _ h => h)) s96 (fun k hk (e : k = g89) => (fun h => absurd ((BothT.good (so_good _ _ _ _) (ro_good _ _ _ _)).lt hT _ h) (Nat.not_lt.2 (Nat.le_trans (Nat.le_refl _) hg93))) (by rw [← e]; exact hk)))
       have O165 : Only NoF w w95 := (o_sg (Only.trans' o72 o91) s96 (size_only o72) (oneF_ge hg93))
       refine LC Z rfl rfl Tryz.call14 (l_crash2 (os := (oo.map q1)) (ro_good _ _ _ _) T164 ok85.2.2.2.2.2 O165 (by have := (hfo.2 _ (List.mem_of_getElem? hm84)).2.1; omega) (fun k hk => Nat.le_trans (Nat.le_refl _) (hgeT k (.inl hk)))) rfl ?_
       rintro e w166 ⟨rfl, F167, h168, o169, fm170, fr171⟩; refine ⟨_, rfl, ?_⟩
       have hge172 := ge_next hgeT (size_only O165) fm170 fr171
       clear Z az; intro az Z
       refine hK163 _ _ ?_
       refine wp_region_lit ?_
       refine L (r_mv Z rfl) Z rfl ?_; clear Z az; intro az Z
       refine L (r_fa (m' := 5) Tryz.underlying39 rfl Tryz.sizeOf37 rfl Z rfl rfl) Z rfl ?_; clear Z az; intro az Z
       have B173 := (Blk.only B97 o169 (fun h => (fun h => absurd ((BothT.good (so_good _ _ _ _) (ro_good _ _ _ _)).lt hT _ h) (Nat.not_lt.2 (Nat.le_trans (Nat.le_refl _) hg93))) (.inl h)))
       refine L (r_ld Tryz.isAgg37 Z rfl ((Blk.ca B173) 5 _ rfl)) Z rfl ?_; clear Z az; intro az Z
       have O174 : Only NoF w w166 := (o_sg O165 o169 (Nat.le_refl _) (fun k h => hgeT k (.inl h)))
       refine LC Z rfl rfl Tryz.call15 (r_crash2 (os := (oo.map q2)) (so_good _ _ _ _) h168 ok85.2.2.2.2.2 O174 (by have := (hfo.2 _ (List.mem_of_getElem? hm84)).2.1; omega) (fun k hk => Nat.le_trans (Nat.le_refl _) (hge172 k (.inl hk)))) rfl ?_
       rintro e w175 ⟨rfl, F176, h177, o178, fm179, fr180⟩; refine ⟨_, rfl, ?_⟩
       have hge181 := ge_next hge172 (size_only O174) fm179 fr180
       clear Z az; intro az Z
       refine hK161 _ _ (wp_seq_k fun K182 hK182 => wp_region_lit ?_)
       refine L (r_mv Z rfl) Z rfl ?_; clear Z az; intro az Z
       refine LC Z rfl rfl Tryz.call16 (l_start2 (os := (oo.map q1)) (ro_good _ _ _ _) h177) rfl ?_
       rintro e w183 ⟨rfl, F184, h185, o186, fm187, fr188⟩; refine ⟨_, rfl, ?_⟩
       have O189 : Only NoF w w175 := (o_sg O174 o178 (Nat.le_refl _) (fun k h => hge172 k (.inl h)))
       have hge190 := ge_next hge181 (size_only O189) fm187 fr188
       clear Z az; intro az Z
       refine hK182 _ _ (wp_seq_k fun K191 hK191 => wp_region_lit ?_)
       refine L (r_mv Z rfl) Z rfl ?_; clear Z az; intro az Z
       refine LC Z rfl rfl Tryz.call17 (r_start2 (os := (oo.map q2)) (so_good _ _ _ _) h185) rfl ?_
       rintro e w192 ⟨rfl, F193, h194, o195, fm196, fr197⟩; refine ⟨_, rfl, ?_⟩
       have O198 : Only NoF w w183 := (o_sg O189 o186 (Nat.le_refl _) (fun k h => hge181 k (.inl h)))
       have hge199 := ge_next hge190 (size_only O198) fm196 fr197
       clear Z az; intro az Z
       refine hK191 _ _ (wp_seq_k fun K200 hK200 => wp_region_lit ?_)
       refine L (r_mv Z rfl) Z rfl ?_; clear Z az; intro az Z
       refine L (r_mv Z rfl) Z rfl ?_; clear Z az; intro az Z
       have hOk209 := (both_r h194).elim fun _ q => (ro_disk q).elim fun _ q => refok q.1
       have O211 : Only NoF w w192 := (o_sg O198 o195 (Nat.le_refl _) (fun k h => hge190 k (.inl h)))
       have G210 := Gr.k hG O211
       refine LC Z rfl rfl Tryz.call8 (l_sopen (os := (oo.map q1)) (h0 := h) (ro_good _ _ _ _) G210 h194 (fun k hk => Nat.le_trans (Nat.le_trans hG.1 (Nat.le_refl _)) (hge199 k (.inl hk)))) rfl ?_
       rintro e w202 ⟨oj201, hm204, rfl, F203, h205, o206, fm207, fr208⟩; refine ⟨_, rfl, ?_⟩
       have hge212 := ge_next hge199 (size_only O211) fm207 fr208
       clear Z az; intro az Z
       refine L (r_mv Z rfl) Z rfl ?_; clear Z az; intro az Z
       refine L (r_ex Z rfl rfl) Z rfl ?_; clear Z az; intro az Z
       refine L (r_ex Z rfl rfl) Z rfl ?_; clear Z az; intro az Z
       refine L (r_as Z rfl) Z rfl ?_; clear Z az; intro az Z
       refine L (r_as Z rfl) Z rfl ?_; clear Z az; intro az Z
       refine hK200 _ _ ?_
       refine wp_region_lit ?_
       refine L (r_mv Z rfl) Z rfl ?_; clear Z az; intro az Z
       refine L (r_mv Z rfl) Z rfl ?_; clear Z az; intro az Z
       refine LC Z rfl rfl Tryz.call9 (r_sopen (os := (oo.map q2)) (h0 := h) (so_good _ _ _ _) h205) rfl ?_
       rintro e w214 ⟨ok213, hm216, rfl, F215, h217, o218, fm219, fr220⟩; refine ⟨_, rfl, ?_⟩
       obtain ⟨oo221, e222, e223⟩ := os_join (hm204.trans hm216.symm); subst e222 e223
       have hji224 : ∀ x, oo221 = some x → SI h x.2.2.2.2 := fun x e => si_open hOk209 (hm204.symm.trans (by rw [e]; rfl))
       have O225 : Only NoF w w202 := (o_sg O211 o206 (Nat.le_refl _) (fun k h => hge199 k (.inl h)))
       have hge226 := ge_next hge212 (size_only O225) fm219 fr220
       clear Z az; intro az Z
       refine L (r_mv Z rfl) Z rfl ?_; clear Z az; intro az Z
       refine L (r_ex Z rfl rfl) Z rfl ?_; clear Z az; intro az Z
       refine L (r_ex Z rfl rfl) Z rfl ?_; clear Z az; intro az Z
       refine L (r_as Z rfl) Z rfl ?_; clear Z az; intro az Z
       refine L (r_as Z rfl) Z rfl ?_; clear Z az; intro az Z
       have O227 := (Only.trans (Only.trans (Only.trans (Only.trans (Only.trans (Only.trans (Only.refl (fun _ => True) w90) s96 (fun _ _ => .inl trivial)) o169 (fun _ _ => .inl trivial)) o178 (fun _ _ => .inl trivial)) o186 (fun _ _ => .inl trivial)) o195 (fun _ _ => .inl trivial)) o206 (fun _ _ => .inl trivial))
       have O229 := (Only.trans (Only.trans (Only.trans (Only.trans (Only.trans (Only.refl (fun _ => True) w90) s96 (fun _ _ => .inl trivial)) o169 (fun _ _ => .inl trivial)) o178 (fun _ _ => .inl trivial)) o186 (fun _ _ => .inl trivial)) o195 (fun _ _ => .inl trivial))
       have O231 := (Only.trans (Only.trans (Only.trans (Only.trans (Only.refl (fun _ => True) w90) s96 (fun _ _ => .inl trivial)) o169 (fun _ _ => .inl trivial)) o178 (fun _ _ => .inl trivial)) o186 (fun _ _ => .inl trivial))
       have O233 := (Only.trans (Only.trans (Only.trans (Only.refl (fun _ => True) w90) s96 (fun _ _ => .inl trivial)) o169 (fun _ _ => .inl trivial)) o178 (fun _ _ => .inl trivial))
       have O235 := (Only.trans (Only.trans (Only.refl (fun _ => True) w90) s96 (fun _ _ => .inl trivial)) o169 (fun _ _ => .inl trivial))
       have O237 := (Only.trans (Only.refl (fun _ => True) w90) s96 (fun _ _ => .inl trivial))
       have sp238 : ¬ Foot.all F167 g89 := sep_next (fun h => absurd ((BothT.good (so_good _ _ _ _) (ro_good _ _ _ _)).lt hT _ h) (Nat.not_lt.2 (Nat.le_trans (Nat.le_refl _) hg93))) (Nat.lt_of_lt_of_le hl94 (size_only O237)) fm170 fr171
       have sp236 : ¬ Foot.all F176 g89 := sep_next sp238 (Nat.lt_of_lt_of_le hl94 (size_only O235)) fm179 fr180
       have sp234 : ¬ Foot.all F184 g89 := sep_next sp236 (Nat.lt_of_lt_of_le hl94 (size_only O233)) fm187 fr188
       have sp232 : ¬ Foot.all F193 g89 := sep_next sp234 (Nat.lt_of_lt_of_le hl94 (size_only O231)) fm196 fr197
       have sp230 : ¬ Foot.all F203 g89 := sep_next sp232 (Nat.lt_of_lt_of_le hl94 (size_only O229)) fm207 fr208
       have sp228 : ¬ Foot.all F215 g89 := sep_next sp230 (Nat.lt_of_lt_of_le hl94 (size_only O227)) fm219 fr220
       have O239 : Only NoF w w214 := (o_sg O225 o218 (Nat.le_refl _) (fun k h => hge212 k (.inl h)))
       have B240 := (Blk.only (Blk.only (Blk.only (Blk.only (Blk.only B173 o178 (fun h => sp238 (.inl h))) o186 (fun h => sp236 (.inl h))) o195 (fun h => sp234 (.inl h))) o206 (fun h => sp232 (.inl h))) o218 (fun h => sp230 (.inl h)))
       exact ⟨(openS (Dsk.start (Dsk.crash D m83.l)) h).1, oo221, (openS (Dsk.start (Dsk.crash D m83.l)) h).2.1, F215, Z.cut ⟨rfl, rfl, rfl, rfl, rfl, rfl, rfl, rfl, rfl, rfl, rfl, trivial⟩, hji224, O239, B240, h217, hge226, sp228⟩
      ·
       have p241 := of_decide_eq_false hc159
       refine wp_region_lit ?_
       refine L (r_eqI Z rfl rfl) Z rfl ?_; clear Z az; intro az Z
       refine L (r_as Z rfl) Z rfl ?_; clear Z az; intro az Z
       refine hK157 _ _ ?_
       refine br Z rfl (fun hc242 => ?_) (fun hc242 => ?_)
       ·
        have p243 := of_decide_eq_true hc242
        refine wp_seq_k fun K244 hK244 => ?_
        refine wp_seq_k fun K245 hK245 => wp_region_lit ?_
        refine L (r_fa (m' := 0) Tryz.underlying39 rfl Tryz.sizeOf3 rfl Z rfl rfl) Z rfl ?_; clear Z az; intro az Z
        refine L (r_ld Tryz.isAgg3 Z rfl ((Blk.ca B97) 0 _ rfl)) Z rfl ?_; clear Z az; intro az Z
        refine L (r_eqI Z rfl rfl) Z rfl ?_; clear Z az; intro az Z
        refine hK245 _ _ ?_
        refine br_false Z (kb_ev rfl hc159) ?_
        refine wp_skip ?_
        refine hK244 _ _ (wp_seq_k fun K246 hK246 => wp_region_lit ?_)
        refine L (r_mv Z rfl) Z rfl ?_; clear Z az; intro az Z
        have T247 : (BothT (SO b19 D h (oo.map q1)) (RO c27 D h (oo.map q2))) w95 F := ((BothT.good (so_good _ _ _ _) (ro_good _ _ _ _)).only ((BothT.good (so_good _ _ _ _) (ro_good _ _ _ _)).only hT o91 (fun _ _ h => h)) s96 (fun k hk (e : k = g89) => (fun h => absurd ((BothT.good (so_good _ _ _ _) (ro_good _ _ _ _)).lt hT _ h) (Nat.not_lt.2 (Nat.le_trans (Nat.le_refl _) hg93))) (by rw [← e]; exact hk)))
        refine LC Z rfl rfl Tryz.call16 (l_start2 (os := (oo.map q1)) (ro_good _ _ _ _) T247) rfl ?_
        rintro e w248 ⟨rfl, F249, h250, o251, fm252, fr253⟩; refine ⟨_, rfl, ?_⟩
        have O254 : Only NoF w w95 := (o_sg (Only.trans' o72 o91) s96 (size_only o72) (oneF_ge hg93))
        have hge255 := ge_next hgeT (size_only O254) fm252 fr253
        clear Z az; intro az Z
        refine hK246 _ _ (wp_seq_k fun K256 hK256 => wp_region_lit ?_)
        refine L (r_mv Z rfl) Z rfl ?_; clear Z az; intro az Z
        refine LC Z rfl rfl Tryz.call17 (r_start2 (os := (oo.map q2)) (so_good _ _ _ _) h250) rfl ?_
        rintro e w257 ⟨rfl, F258, h259, o260, fm261, fr262⟩; refine ⟨_, rfl, ?_⟩
        have O263 : Only NoF w w248 := (o_sg O254 o251 (Nat.le_refl _) (fun k h => hgeT k (.inl h)))
        have hge264 := ge_next hge255 (size_only O263) fm261 fr262
        clear Z az; intro az Z
        refine hK256 _ _ (wp_seq_k fun K265 hK265 => wp_region_lit ?_)
        refine L (r_mv Z rfl) Z rfl ?_; clear Z az; intro az Z
        refine L (r_mv Z rfl) Z rfl ?_; clear Z az; intro az Z
        have hOk274 := (both_r h259).elim fun _ q => (ro_disk q).elim fun _ q => refok q.1
        have O276 : Only NoF w w257 := (o_sg O263 o260 (Nat.le_refl _) (fun k h => hge255 k (.inl h)))
        have G275 := Gr.k hG O276
        refine LC Z rfl rfl Tryz.call8 (l_sopen (os := (oo.map q1)) (h0 := h) (ro_good _ _ _ _) G275 h259 (fun k hk => Nat.le_trans (Nat.le_trans hG.1 (Nat.le_refl _)) (hge264 k (.inl hk)))) rfl ?_
        rintro e w267 ⟨oj266, hm269, rfl, F268, h270, o271, fm272, fr273⟩; refine ⟨_, rfl, ?_⟩
        have hge277 := ge_next hge264 (size_only O276) fm272 fr273
        clear Z az; intro az Z
        refine L (r_mv Z rfl) Z rfl ?_; clear Z az; intro az Z
        refine L (r_ex Z rfl rfl) Z rfl ?_; clear Z az; intro az Z
        refine L (r_ex Z rfl rfl) Z rfl ?_; clear Z az; intro az Z
        refine L (r_as Z rfl) Z rfl ?_; clear Z az; intro az Z
        refine L (r_as Z rfl) Z rfl ?_; clear Z az; intro az Z
        refine hK265 _ _ ?_
        refine wp_region_lit ?_
        refine L (r_mv Z rfl) Z rfl ?_; clear Z az; intro az Z
        refine L (r_mv Z rfl) Z rfl ?_; clear Z az; intro az Z
        refine LC Z rfl rfl Tryz.call9 (r_sopen (os := (oo.map q2)) (h0 := h) (so_good _ _ _ _) h270) rfl ?_
        rintro e w279 ⟨ok278, hm281, rfl, F280, h282, o283, fm284, fr285⟩; refine ⟨_, rfl, ?_⟩
        obtain ⟨oo286, e287, e288⟩ := os_join (hm269.trans hm281.symm); subst e287 e288
        have hji289 : ∀ x, oo286 = some x → SI h x.2.2.2.2 := fun x e => si_open hOk274 (hm269.symm.trans (by rw [e]; rfl))
        have O290 : Only NoF w w267 := (o_sg O276 o271 (Nat.le_refl _) (fun k h => hge264 k (.inl h)))
        have hge291 := ge_next hge277 (size_only O290) fm284 fr285
        clear Z az; intro az Z
        refine L (r_mv Z rfl) Z rfl ?_; clear Z az; intro az Z
        refine L (r_ex Z rfl rfl) Z rfl ?_; clear Z az; intro az Z
        refine L (r_ex Z rfl rfl) Z rfl ?_; clear Z az; intro az Z
        refine L (r_as Z rfl) Z rfl ?_; clear Z az; intro az Z
        refine L (r_as Z rfl) Z rfl ?_; clear Z az; intro az Z
        have O292 := (Only.trans (Only.trans (Only.trans (Only.trans (Only.refl (fun _ => True) w90) s96 (fun _ _ => .inl trivial)) o251 (fun _ _ => .inl trivial)) o260 (fun _ _ => .inl trivial)) o271 (fun _ _ => .inl trivial))
        have O294 := (Only.trans (Only.trans (Only.trans (Only.refl (fun _ => True) w90) s96 (fun _ _ => .inl trivial)) o251 (fun _ _ => .inl trivial)) o260 (fun _ _ => .inl trivial))
        have O296 := (Only.trans (Only.trans (Only.refl (fun _ => True) w90) s96 (fun _ _ => .inl trivial)) o251 (fun _ _ => .inl trivial))
        have O298 := (Only.trans (Only.refl (fun _ => True) w90) s96 (fun _ _ => .inl trivial))
        have sp299 : ¬ Foot.all F249 g89 := sep_next (fun h => absurd ((BothT.good (so_good _ _ _ _) (ro_good _ _ _ _)).lt hT _ h) (Nat.not_lt.2 (Nat.le_trans (Nat.le_refl _) hg93))) (Nat.lt_of_lt_of_le hl94 (size_only O298)) fm252 fr253
        have sp297 : ¬ Foot.all F258 g89 := sep_next sp299 (Nat.lt_of_lt_of_le hl94 (size_only O296)) fm261 fr262
        have sp295 : ¬ Foot.all F268 g89 := sep_next sp297 (Nat.lt_of_lt_of_le hl94 (size_only O294)) fm272 fr273
        have sp293 : ¬ Foot.all F280 g89 := sep_next sp295 (Nat.lt_of_lt_of_le hl94 (size_only O292)) fm284 fr285
        have O300 : Only NoF w w279 := (o_sg O290 o283 (Nat.le_refl _) (fun k h => hge277 k (.inl h)))
        have B301 := (Blk.only (Blk.only (Blk.only (Blk.only B97 o251 (fun h => (fun h => absurd ((BothT.good (so_good _ _ _ _) (ro_good _ _ _ _)).lt hT _ h) (Nat.not_lt.2 (Nat.le_trans (Nat.le_refl _) hg93))) (.inl h))) o260 (fun h => sp299 (.inl h))) o271 (fun h => sp297 (.inl h))) o283 (fun h => sp295 (.inl h)))
        exact ⟨(openS (Dsk.start D) h).1, oo286, (openS (Dsk.start D) h).2.1, F280, Z.cut ⟨rfl, rfl, rfl, rfl, rfl, rfl, rfl, rfl, rfl, rfl, rfl, trivial⟩, hji289, O300, B301, h282, hge291, sp293⟩
       ·
        have p302 := of_decide_eq_false hc242
        refine wp_skip ?_
        have O303 : Only NoF w w95 := (o_sg (Only.trans' o72 o91) s96 (size_only o72) (oneF_ge hg93))
        have T304 : (BothT (SO b19 D h (oo.map q1)) (RO c27 D h (oo.map q2))) w95 F := ((BothT.good (so_good _ _ _ _) (ro_good _ _ _ _)).only ((BothT.good (so_good _ _ _ _) (ro_good _ _ _ _)).only hT o91 (fun _ _ h => h)) s96 (fun k hk (e : k = g89) => (fun h => absurd ((BothT.good (so_good _ _ _ _) (ro_good _ _ _ _)).lt hT _ h) (Nat.not_lt.2 (Nat.le_trans (Nat.le_refl _) hg93))) (by rw [← e]; exact hk)))
        exact ⟨D, oo, er, F, Z.cut ⟨rfl, rfl, rfl, rfl, rfl, rfl, rfl, rfl, rfl, rfl, rfl, trivial⟩, hji, O303, B97, T304, hgeT, (fun h => absurd ((BothT.good (so_good _ _ _ _) (ro_good _ _ _ _)).lt hT _ h) (Nat.not_lt.2 (Nat.le_trans (Nat.le_refl _) hg93)))⟩
   clear Z az
   rintro az w305 ⟨D2, o2, er2, F2, Z, hji2, o306, B307, hT2, hgeT2, hsep2⟩
   refine wp_seq_k fun K308 hK308 => ?_
   refine wp_seq_k fun K309 hK309 => wp_region_lit ?_
   refine L (r_mv Z rfl) Z rfl ?_; clear Z az; intro az Z
   rcases o2 with _ | ⟨g310, jg311, g312, kg313, J314⟩
   ·
    have h316 : (BothT (SO b19 D2 h none) (RO c27 D2 h none)) w305 F2 := hT2
    refine L (r_eqNN Tryz.underlying29 Z rfl rfl) Z rfl ?_; clear Z az; intro az Z
    refine L (r_mv Z rfl) Z rfl ?_; clear Z az; intro az Z
    refine LF Z rfl rfl rfl rfl ?_; clear Z az; intro az Z
    refine LF Z rfl rfl rfl rfl ?_; clear Z az; intro az Z
    refine L (r_pick Z rfl rfl rfl) Z rfl ?_; clear Z az; intro az Z
    refine hK309 _ _ ?_
    refine br_true Z rfl ?_
    refine wp_exit ?_
    refine th_exit ?_
    refine ib_hit ?_
    refine hK78 _ _ ?_
    refine wp_region_lit ?_
    refine L (r_mv Z rfl) Z rfl ?_; clear Z az; intro az Z
    have i317 : I64 (((i : Int) + 1)) := by unfold I64; omega
    refine L (r_addI (r := ((i : Int) + 1)) Z rfl rfl rfl i317) Z rfl ?_; clear Z az; intro az Z
    refine L (r_as Z rfl) Z rfl ?_; clear Z az; intro az Z
    exact ⟨_, (by omega), i + 1, D2, none, er2, F2, rfl, Z.cut ⟨rfl, rfl, rfl, rfl, rfl, rfl, rfl, rfl, rfl, rfl, trivial⟩, (by omega), si_none, o306, h316, hgeT2⟩
   ·
    have h318 : (BothT (ST b19 g310 jg311 D2 h J314) (RST c27 g312 kg313 D2 h J314)) w305 F2 := hT2
    have hj315 : SI h J314 := hji2 _ rfl
    refine L (r_eqP Tryz.underlying29 Z rfl rfl) Z rfl ?_; clear Z az; intro az Z
    refine L (r_mv Z rfl) Z rfl ?_; clear Z az; intro az Z
    refine LT Z rfl rfl (r_mv Z rfl) rfl ?_; clear Z az; intro az Z
    refine LT Z rfl rfl (r_eqP Tryz.underlying33 Z rfl rfl) rfl ?_; clear Z az; intro az Z
    refine L (r_pick Z rfl rfl rfl) Z rfl ?_; clear Z az; intro az Z
    refine hK309 _ _ ?_
    refine br_false Z rfl ?_
    refine wp_skip ?_
    refine hK308 _ _ (wp_seq_k fun K319 hK319 => ?_)
    refine wp_seq_k fun K320 hK320 => wp_region_lit ?_
    refine L (r_fa (m' := 0) Tryz.underlying39 rfl Tryz.sizeOf3 rfl Z rfl rfl) Z rfl ?_; clear Z az; intro az Z
    refine L (r_ld Tryz.isAgg3 Z rfl ((Blk.ca B307) 0 _ rfl)) Z rfl ?_; clear Z az; intro az Z
    refine L (r_ltI Z rfl rfl) Z rfl ?_; clear Z az; intro az Z
    refine L (r_mv Z rfl) Z rfl ?_; clear Z az; intro az Z
    refine LG Z rfl rfl gd_f (fun hb => r_fa (m' := 0) Tryz.underlying39 rfl Tryz.sizeOf3 rfl Z rfl rfl) rfl ?_; clear Z az; intro az Z
    refine LG Z rfl rfl gd_f (fun hb => r_ld Tryz.isAgg3 Z (evg hb rfl) ((Blk.ca B307) 0 _ rfl)) rfl ?_; clear Z az; intro az Z
    refine LG Z rfl rfl gd_f (fun hb => r_gtI Z (evg hb rfl) rfl) rfl ?_; clear Z az; intro az Z
    refine L (r_or Z rfl rfl rfl) Z rfl ?_; clear Z az; intro az Z
    refine hK320 _ _ ?_
    refine br Z rfl (fun hc321 => ?_) (fun hc321 => ?_)
    ·
     have d322 := hc321
     refine wp_seq_k fun K323 hK323 => wp_region_lit ?_
     refine L (r_mv Z rfl) Z rfl ?_; clear Z az; intro az Z
     refine L (r_fa (m' := 1) Tryz.underlying39 rfl Tryz.sizeOf3 rfl Z rfl rfl) Z rfl ?_; clear Z az; intro az Z
     refine L (r_ld Tryz.isAgg3 Z rfl ((Blk.ca B307) 1 _ rfl)) Z rfl ?_; clear Z az; intro az Z
     refine L (r_fa (m' := 3) Tryz.underlying39 rfl Tryz.sizeOf36 rfl Z rfl rfl) Z rfl ?_; clear Z az; intro az Z
     refine L (r_ld Tryz.isAgg36 Z rfl ((Blk.ca B307) 3 _ rfl)) Z rfl ?_; clear Z az; intro az Z
     refine L (r_fa (m' := 4) Tryz.underlying39 rfl Tryz.sizeOf9 rfl Z rfl rfl) Z rfl ?_; clear Z az; intro az Z
     refine L (r_ld Tryz.isAgg9 Z rfl ((Blk.ca B307) 4 _ rfl)) Z rfl ?_; clear Z az; intro az Z
     have G324 := Gr.k hG o306
     refine LC Z rfl rfl Tryz.call18 (l_write2 (rst_good _ _ _ _ _ _) G324 h318 (fun k hk => Nat.le_trans (Nat.le_trans hG.1 (Nat.le_refl _)) (hgeT2 k (.inl hk))) hj315 (SliceOf.kp ok85.2.2.2.1 o306 (fun _ _ h => h) (fun _ _ _ _ h => h)) hh ok85.2.1 ok85.2.2.2.2.1 (by have := (hfo.2 _ (List.mem_of_getElem? hm84)).2.2; omega)) rfl ?_
     rintro e w325 ⟨rfl, F326, h327, o328, fm329, fr330⟩; refine ⟨_, rfl, ?_⟩
     have hge331 := ge_next hgeT2 (size_only o306) fm329 fr330
     clear Z az; intro az Z
     refine L (r_as Z rfl) Z rfl ?_; clear Z az; intro az Z
     refine hK323 _ _ ?_
     refine wp_region_lit ?_
     refine L (r_mv Z rfl) Z rfl ?_; clear Z az; intro az Z
     refine L (r_fa (m' := 1) Tryz.underlying39 rfl Tryz.sizeOf3 rfl Z rfl rfl) Z rfl ?_; clear Z az; intro az Z
     have B332 := (Blk.only B307 o328 (fun h => hsep2 (.inl h)))
     refine L (r_ld Tryz.isAgg3 Z rfl ((Blk.ca B332) 1 _ rfl)) Z rfl ?_; clear Z az; intro az Z
     refine L (r_fa (m' := 3) Tryz.underlying39 rfl Tryz.sizeOf36 rfl Z rfl rfl) Z rfl ?_; clear Z az; intro az Z
     refine L (r_ld Tryz.isAgg36 Z rfl ((Blk.ca B332) 3 _ rfl)) Z rfl ?_; clear Z az; intro az Z
     refine L (r_fa (m' := 4) Tryz.underlying39 rfl Tryz.sizeOf9 rfl Z rfl rfl) Z rfl ?_; clear Z az; intro az Z
     refine L (r_ld Tryz.isAgg9 Z rfl ((Blk.ca B332) 4 _ rfl)) Z rfl ?_; clear Z az; intro az Z
     have O333 : Only NoF w w325 := (o_sg o306 o328 (Nat.le_refl _) (fun k h => hgeT2 k (.inl h)))
     refine LC Z rfl rfl Tryz.call19 (r_write2 (st_good _ _ _ _ _ _) h327 hj315 (SliceOf.kp ok85.2.2.2.1 O333 (fun _ _ h => h) (fun _ _ _ _ h => h)) hh ok85.2.1 ok85.2.2.2.2.1 (by have := (hfo.2 _ (List.mem_of_getElem? hm84)).2.2; omega)) rfl ?_
     rintro e w334 ⟨rfl, F335, h336, o337, fm338, fr339⟩; refine ⟨_, rfl, ?_⟩
     have hge340 := ge_next hge331 (size_only O333) fm338 fr339
     clear Z az; intro az Z
     have hj341 := si_write hj315 D2 (d := m83.d) (q := m83.q) (t := m83.s) (Row.oks KRef ok85.2.2.2.1)
     refine L (r_as Z rfl) Z rfl ?_; clear Z az; intro az Z
     refine hK319 _ _ (wp_seq_k fun K342 hK342 => ?_)
     refine wp_seq_k fun K343 hK343 => wp_region_lit ?_
     refine L (r_fa (m' := 0) Tryz.underlying39 rfl Tryz.sizeOf3 rfl Z rfl rfl) Z rfl ?_; clear Z az; intro az Z
     have sp344 : ¬ Foot.all F326 g89 := sep_next hsep2 (Nat.lt_of_lt_of_le (Blk.lt B307) (Nat.le_refl _)) fm329 fr330
     have B345 := (Blk.only B332 o337 (fun h => sp344 (.inl h)))
     refine L (r_ld Tryz.isAgg3 Z rfl ((Blk.ca B345) 0 _ rfl)) Z rfl ?_; clear Z az; intro az Z
     refine L (r_eqI Z rfl rfl) Z rfl ?_; clear Z az; intro az Z
     refine hK343 _ _ ?_
     refine br Z rfl (fun hc346 => ?_) (fun hc346 => ?_)
     ·
      have p347 := of_decide_eq_true hc346
      exfalso; have hx1 := of_decide_eq_true hc346; have hx2 := hc321; simp only [Bool.or_eq_true, decide_eq_true_eq] at hx2; omega
     ·
      have p348 := of_decide_eq_false hc346
      refine wp_skip ?_
      refine hK342 _ _ (wp_seq_k fun K349 hK349 => wp_region_lit ?_)
      refine L (r_mv Z rfl) Z rfl ?_; clear Z az; intro az Z
      refine LC Z rfl rfl Tryz.call23 ((both_l h336).elim fun _ q => so_all q hj341) rfl ?_
      rintro e w350 ⟨A352, c353, L354, rfl, hL355, r356, hN357, o351⟩; refine ⟨_, rfl, ?_⟩
      clear Z az; intro az Z
      refine L (r_mv Z rfl) Z rfl ?_; clear Z az; intro az Z
      have T366 : (BothT (ST b19 g310 jg311 ((Jn.writeS J314 D2 h m83.d m83.q m83.s).1) h ((Jn.writeS J314 D2 h m83.d m83.q m83.s).2.1)) (RST c27 g312 kg313 ((Jn.writeS J314 D2 h m83.d m83.q m83.s).1) h ((Jn.writeS J314 D2 h m83.d m83.q m83.s).2.1))) w350 F335 := ((BothT.good (st_good _ _ _ _ _ _) (rst_good _ _ _ _ _ _)).only h336 o351 (fun _ _ h => h))
      refine LC Z rfl rfl Tryz.call24 ((both_r T366).elim fun _ q => r_all2 q hj341) rfl ?_
      rintro e w358 ⟨A360, c361, L362, rfl, hL363, r364, hN365, o359⟩; refine ⟨_, rfl, ?_⟩
      clear Z az; intro az Z
      have r367 := (ow_k r356 o359)
      refine LCV (v := .bool (true)) Z rfl rfl Tryz.call22 (fix_eq (congrArg Value.bool (decide_eq_true (hL355.trans hL363.symm))) (rSameChain_v (notes_of r367 (OkNs.k hN357 o359)) (notes_of r364 hN365))) rfl fun w368 o369 => ?_; clear Z az; intro az Z
      refine L (r_not Z rfl) Z rfl ?_; clear Z az; intro az Z
      refine hK349 _ _ ?_
      refine br_false Z rfl ?_
      refine wp_skip ?_
      refine hK78 _ _ ?_
      refine wp_region_lit ?_
      refine L (r_mv Z rfl) Z rfl ?_; clear Z az; intro az Z
      have i370 : I64 (((i : Int) + 1)) := by unfold I64; omega
      refine L (r_addI (r := ((i : Int) + 1)) Z rfl rfl rfl i370) Z rfl ?_; clear Z az; intro az Z
      refine L (r_as Z rfl) Z rfl ?_; clear Z az; intro az Z
      have O371 : Only NoF w w368 := (Only.trans' (Only.trans' (Only.trans' (o_sg O333 o337 (Nat.le_refl _) (fun k h => hge331 k (.inl h))) o351) o359) o369)
      have O372 : Only NoF w350 w368 := (Only.trans' o359 o369)
      have T373 : (BothT (ST b19 g310 jg311 ((Jn.writeS J314 D2 h m83.d m83.q m83.s).1) h ((Jn.writeS J314 D2 h m83.d m83.q m83.s).2.1)) (RST c27 g312 kg313 ((Jn.writeS J314 D2 h m83.d m83.q m83.s).1) h ((Jn.writeS J314 D2 h m83.d m83.q m83.s).2.1))) w368 F335 := ((BothT.good (st_good _ _ _ _ _ _) (rst_good _ _ _ _ _ _)).only T366 O372 (fun _ _ h => h))
      exact ⟨_, (by omega), i + 1, (Jn.writeS J314 D2 h m83.d m83.q m83.s).1, (some (g310, jg311, g312, kg313, (Jn.writeS J314 D2 h m83.d m83.q m83.s).2.1)), (Jn.writeS J314 D2 h m83.d m83.q m83.s).2.2, F335, rfl, Z.cut ⟨rfl, rfl, rfl, rfl, rfl, rfl, rfl, rfl, rfl, rfl, trivial⟩, (by omega), (si_some hj341), O371, T373, hge340⟩
    ·
     have p374 := of_decide_eq_false (or_f hc321).1
     have p375 := of_decide_eq_false (or_f hc321).2
     refine wp_skip ?_
     refine hK319 _ _ (wp_seq_k fun K376 hK376 => ?_)
     refine wp_seq_k fun K377 hK377 => wp_region_lit ?_
     refine L (r_fa (m' := 0) Tryz.underlying39 rfl Tryz.sizeOf3 rfl Z rfl rfl) Z rfl ?_; clear Z az; intro az Z
     refine L (r_ld Tryz.isAgg3 Z rfl ((Blk.ca B307) 0 _ rfl)) Z rfl ?_; clear Z az; intro az Z
     refine L (r_eqI Z rfl rfl) Z rfl ?_; clear Z az; intro az Z
     refine hK377 _ _ ?_
     refine br Z rfl (fun hc378 => ?_) (fun hc378 => ?_)
     ·
      have p379 := of_decide_eq_true hc378
      refine wp_seq_k fun K380 hK380 => wp_region_lit ?_
      refine L (r_mv Z rfl) Z rfl ?_; clear Z az; intro az Z
      have G395 := Gr.k hG o306
      refine LC Z rfl rfl Tryz.call20 (l_tell2 (rst_good _ _ _ _ _ _) G395 h318 (fun k hk => Nat.le_trans (Nat.le_trans hG.1 (Nat.le_refl _)) (hgeT2 k (.inl hk))) hj315) rfl ?_
      rintro e w382 ⟨w381, A383, c384, L385, ⟨F386, h387, o388, fm389, fr390⟩, rfl, hL391, r392, hN393, o394⟩; refine ⟨_, rfl, ?_⟩
      have hge396 := ge_next hgeT2 (size_only o306) fm389 fr390
      clear Z az; intro az Z
      refine L (r_mv Z rfl) Z rfl ?_; clear Z az; intro az Z
      refine L (r_ex Z rfl rfl) Z rfl ?_; clear Z az; intro az Z
      refine L (r_ex Z rfl rfl) Z rfl ?_; clear Z az; intro az Z
      refine L (r_as Z rfl) Z rfl ?_; clear Z az; intro az Z
      refine L (r_as Z rfl) Z rfl ?_; clear Z az; intro az Z
      refine hK380 _ _ (wp_seq_k fun K397 hK397 => wp_region_lit ?_)
      refine L (r_mv Z rfl) Z rfl ?_; clear Z az; intro az Z
      have T412 : (BothT (ST b19 g310 jg311 ((Jn.sync J314 D2).1) h ((Jn.sync J314 D2).2.1)) (RST c27 g312 kg313 D2 h J314)) w382 F386 := ((BothT.good (st_good _ _ _ _ _ _) (rst_good _ _ _ _ _ _)).only h387 o394 (fun _ _ h => h))
      refine LC Z rfl rfl Tryz.call21 (r_tell2 (st_good _ _ _ _ _ _) T412 hj315) rfl ?_
      rintro e w399 ⟨w398, A400, c401, L402, ⟨F403, h404, o405, fm406, fr407⟩, rfl, hL408, r409, hN410, o411⟩; refine ⟨_, rfl, ?_⟩
      have O413 : Only NoF w w382 := (Only.trans' (o_sg o306 o388 (Nat.le_refl _) (fun k h => hgeT2 k (.inl h))) o394)
      have hge414 := ge_next hge396 (size_only O413) fm406 fr407
      have hj415 := si_sync hj315 D2
      clear Z az; intro az Z
      refine L (r_mv Z rfl) Z rfl ?_; clear Z az; intro az Z
      refine L (r_ex Z rfl rfl) Z rfl ?_; clear Z az; intro az Z
      refine L (r_ex Z rfl rfl) Z rfl ?_; clear Z az; intro az Z
      refine L (r_as Z rfl) Z rfl ?_; clear Z az; intro az Z
      refine L (r_as Z rfl) Z rfl ?_; clear Z az; intro az Z
      refine hK397 _ _ (wp_seq_k fun K416 hK416 => wp_region_lit ?_)
      refine L (r_mv Z rfl) Z rfl ?_; clear Z az; intro az Z
      refine L (r_mv Z rfl) Z rfl ?_; clear Z az; intro az Z
      refine L (r_neRI Z rfl rfl) Z rfl ?_; clear Z az; intro az Z
      refine L (r_mv Z rfl) Z rfl ?_; clear Z az; intro az Z
      refine LT Z rfl rfl (r_mv Z rfl) rfl ?_; clear Z az; intro az Z
      refine LT Z rfl rfl (r_mv Z rfl) rfl ?_; clear Z az; intro az Z
      have r417 := (ow_k (ow_only r392 o405 (fun k hk hF => (fun k hk h => absurd ((BothT.good (st_good _ _ _ _ _ _) (rst_good _ _ _ _ _ _)).lt h387 _ h) (Nat.not_lt.2 (Nat.le_trans (Nat.le_refl _) (ownF_ge r392 k hk)))) k hk (.inl hF))) o411)
      refine LGV (v := .bool (true)) Z rfl rfl gd_f rfl (fun hb => rfl) Tryz.call22 (fun hb => fix_eq (congrArg Value.bool (decide_eq_true (hL391.trans hL408.symm))) (rSameChain_v (notes_of r417 (OkNs.k (OkNs.only hN393 o405 (fun k hk hF => absurd (Nat.lt_of_lt_of_le ((BothT.good (st_good _ _ _ _ _ _) (rst_good _ _ _ _ _ _)).lt h387 _ (.inl hF)) (Nat.le_refl _)) (Nat.not_lt.2 hk.1))) o411)) (notes_of r409 hN410))) rfl fun w418 o419 => ?_; clear Z az; intro az Z
      refine LT Z rfl rfl (r_not Z rfl) rfl ?_; clear Z az; intro az Z
      refine L (r_pick Z rfl rfl rfl) Z rfl ?_; clear Z az; intro az Z
      refine hK416 _ _ ?_
      refine br_false Z rfl ?_
      refine wp_skip ?_
      refine hK376 _ _ (wp_seq_k fun K420 hK420 => wp_region_lit ?_)
      refine L (r_mv Z rfl) Z rfl ?_; clear Z az; intro az Z
      have O429 : Only NoF w398 w418 := (Only.trans' o411 o419)
      have T430 : (BothT (ST b19 g310 jg311 ((Jn.sync J314 D2).1) h ((Jn.sync J314 D2).2.1)) (RST c27 g312 kg313 ((Jn.sync J314 D2).1) h ((Jn.sync J314 D2).2.1))) w418 F403 := ((BothT.good (st_good _ _ _ _ _ _) (rst_good _ _ _ _ _ _)).only h404 O429 (fun _ _ h => h))
      refine LC Z rfl rfl Tryz.call23 ((both_l T430).elim fun _ q => so_all q hj415) rfl ?_
      rintro e w421 ⟨A423, c424, L425, rfl, hL426, r427, hN428, o422⟩; refine ⟨_, rfl, ?_⟩
      clear Z az; intro az Z
      refine L (r_mv Z rfl) Z rfl ?_; clear Z az; intro az Z
      have T439 : (BothT (ST b19 g310 jg311 ((Jn.sync J314 D2).1) h ((Jn.sync J314 D2).2.1)) (RST c27 g312 kg313 ((Jn.sync J314 D2).1) h ((Jn.sync J314 D2).2.1))) w421 F403 := ((BothT.good (st_good _ _ _ _ _ _) (rst_good _ _ _ _ _ _)).only T430 o422 (fun _ _ h => h))
      refine LC Z rfl rfl Tryz.call24 ((both_r T439).elim fun _ q => r_all2 q hj415) rfl ?_
      rintro e w431 ⟨A433, c434, L435, rfl, hL436, r437, hN438, o432⟩; refine ⟨_, rfl, ?_⟩
      clear Z az; intro az Z
      have r440 := (ow_k r427 o432)
      refine LCV (v := .bool (true)) Z rfl rfl Tryz.call22 (fix_eq (congrArg Value.bool (decide_eq_true (hL426.trans hL436.symm))) (rSameChain_v (notes_of r440 (OkNs.k hN428 o432)) (notes_of r437 hN438))) rfl fun w441 o442 => ?_; clear Z az; intro az Z
      refine L (r_not Z rfl) Z rfl ?_; clear Z az; intro az Z
      refine hK420 _ _ ?_
      refine br_false Z rfl ?_
      refine wp_skip ?_
      refine hK78 _ _ ?_
      refine wp_region_lit ?_
      refine L (r_mv Z rfl) Z rfl ?_; clear Z az; intro az Z
      have i443 : I64 (((i : Int) + 1)) := by unfold I64; omega
      refine L (r_addI (r := ((i : Int) + 1)) Z rfl rfl rfl i443) Z rfl ?_; clear Z az; intro az Z
      refine L (r_as Z rfl) Z rfl ?_; clear Z az; intro az Z
      have O444 : Only NoF w w441 := (Only.trans' (Only.trans' (Only.trans' (Only.trans' (Only.trans' (o_sg O413 o405 (Nat.le_refl _) (fun k h => hge396 k (.inl h))) o411) o419) o422) o432) o442)
      have O445 : Only NoF w421 w441 := (Only.trans' o432 o442)
      have T446 : (BothT (ST b19 g310 jg311 ((Jn.sync J314 D2).1) h ((Jn.sync J314 D2).2.1)) (RST c27 g312 kg313 ((Jn.sync J314 D2).1) h ((Jn.sync J314 D2).2.1))) w441 F403 := ((BothT.good (st_good _ _ _ _ _ _) (rst_good _ _ _ _ _ _)).only T439 O445 (fun _ _ h => h))
      exact ⟨_, (by omega), i + 1, (Jn.sync J314 D2).1, (some (g310, jg311, g312, kg313, (Jn.sync J314 D2).2.1)), er2, F403, rfl, Z.cut ⟨rfl, rfl, rfl, rfl, rfl, rfl, rfl, rfl, rfl, rfl, trivial⟩, (by omega), (si_some hj415), O444, T446, hge414⟩
     ·
      have p447 := of_decide_eq_false hc378
      refine wp_skip ?_
      refine hK376 _ _ (wp_seq_k fun K448 hK448 => wp_region_lit ?_)
      refine L (r_mv Z rfl) Z rfl ?_; clear Z az; intro az Z
      refine LC Z rfl rfl Tryz.call23 ((both_l h318).elim fun _ q => so_all q hj315) rfl ?_
      rintro e w449 ⟨A451, c452, L453, rfl, hL454, r455, hN456, o450⟩; refine ⟨_, rfl, ?_⟩
      clear Z az; intro az Z
      refine L (r_mv Z rfl) Z rfl ?_; clear Z az; intro az Z
      have T465 : (BothT (ST b19 g310 jg311 D2 h J314) (RST c27 g312 kg313 D2 h J314)) w449 F2 := ((BothT.good (st_good _ _ _ _ _ _) (rst_good _ _ _ _ _ _)).only h318 o450 (fun _ _ h => h))
      refine LC Z rfl rfl Tryz.call24 ((both_r T465).elim fun _ q => r_all2 q hj315) rfl ?_
      rintro e w457 ⟨A459, c460, L461, rfl, hL462, r463, hN464, o458⟩; refine ⟨_, rfl, ?_⟩
      clear Z az; intro az Z
      have r466 := (ow_k r455 o458)
      refine LCV (v := .bool (true)) Z rfl rfl Tryz.call22 (fix_eq (congrArg Value.bool (decide_eq_true (hL454.trans hL462.symm))) (rSameChain_v (notes_of r466 (OkNs.k hN456 o458)) (notes_of r463 hN464))) rfl fun w467 o468 => ?_; clear Z az; intro az Z
      refine L (r_not Z rfl) Z rfl ?_; clear Z az; intro az Z
      refine hK448 _ _ ?_
      refine br_false Z rfl ?_
      refine wp_skip ?_
      refine hK78 _ _ ?_
      refine wp_region_lit ?_
      refine L (r_mv Z rfl) Z rfl ?_; clear Z az; intro az Z
      have i469 : I64 (((i : Int) + 1)) := by unfold I64; omega
      refine L (r_addI (r := ((i : Int) + 1)) Z rfl rfl rfl i469) Z rfl ?_; clear Z az; intro az Z
      refine L (r_as Z rfl) Z rfl ?_; clear Z az; intro az Z
      have O470 : Only NoF w w467 := (Only.trans' (Only.trans' (Only.trans' o306 o450) o458) o468)
      have O471 : Only NoF w449 w467 := (Only.trans' o458 o468)
      have T472 : (BothT (ST b19 g310 jg311 D2 h J314) (RST c27 g312 kg313 D2 h J314)) w467 F2 := ((BothT.good (st_good _ _ _ _ _ _) (rst_good _ _ _ _ _ _)).only T465 O471 (fun _ _ h => h))
      exact ⟨_, (by omega), i + 1, D2, (some (g310, jg311, g312, kg313, J314)), er2, F2, rfl, Z.cut ⟨rfl, rfl, rfl, rfl, rfl, rfl, rfl, rfl, rfl, rfl, trivial⟩, (by omega), (si_some hj315), O470, T472, hgeT2⟩
  ·
   have p473 := of_decide_eq_false hc76
   refine wp_exit ?_
   refine th_exit ?_
   refine th_exit ?_
   refine ib_hit ?_
   refine hK68 _ _ (wp_seq_k fun K474 hK474 => wp_region_lit ?_)
   refine L (r_mv Z rfl) Z rfl ?_; clear Z az; intro az Z
   refine L (r_mv Z rfl) Z rfl ?_; clear Z az; intro az Z
   refine LT Z rfl rfl (r_mv Z rfl) rfl ?_; clear Z az; intro az Z
   refine LT Z rfl rfl (r_mv Z rfl) rfl ?_; clear Z az; intro az Z
   refine LT Z rfl rfl (r_eqRI Z rfl rfl) rfl ?_; clear Z az; intro az Z
   refine L (r_pick Z rfl rfl rfl) Z rfl ?_; clear Z az; intro az Z
   refine L (r_mv Z rfl) Z rfl ?_; clear Z az; intro az Z
   refine LT Z rfl rfl (r_mv Z rfl) rfl ?_; clear Z az; intro az Z
   rcases oo with _ | ⟨g475, jg476, g477, kg478, J479⟩
   ·
    have h481 : (BothT (SO b19 D h none) (RO c27 D h none)) w71 F := hT
    refine LT Z rfl rfl (r_eqNN Tryz.underlying29 Z rfl rfl) rfl ?_; clear Z az; intro az Z
    refine LT Z rfl rfl (r_mv Z rfl) rfl ?_; clear Z az; intro az Z
    refine LT Z rfl rfl (r_eqNN Tryz.underlying33 Z rfl rfl) rfl ?_; clear Z az; intro az Z
    refine LT Z rfl rfl (r_eqRBu Tryz.underlying4 Z rfl rfl) rfl ?_; clear Z az; intro az Z
    refine L (r_pick Z rfl rfl rfl) Z rfl ?_; clear Z az; intro az Z
    refine L (r_as Z rfl) Z rfl ?_; clear Z az; intro az Z
    refine hK474 _ _ ?_
    refine wp_ret ?_
    show bodyPost _ _ _ .ret _ _
    refine ret_of (vs := [.bool (true)]) Z Tryz.results3 ⟨rfl, trivial⟩ ?_
    exact ⟨rfl, o72⟩
   ·
    have h482 : (BothT (ST b19 g475 jg476 D h J479) (RST c27 g477 kg478 D h J479)) w71 F := hT
    have hj480 : SI h J479 := hji _ rfl
    refine LT Z rfl rfl (r_eqP Tryz.underlying29 Z rfl rfl) rfl ?_; clear Z az; intro az Z
    refine LT Z rfl rfl (r_mv Z rfl) rfl ?_; clear Z az; intro az Z
    refine LT Z rfl rfl (r_eqP Tryz.underlying33 Z rfl rfl) rfl ?_; clear Z az; intro az Z
    refine LT Z rfl rfl (r_eqRBu Tryz.underlying4 Z rfl rfl) rfl ?_; clear Z az; intro az Z
    refine L (r_pick Z rfl rfl rfl) Z rfl ?_; clear Z az; intro az Z
    refine L (r_as Z rfl) Z rfl ?_; clear Z az; intro az Z
    refine hK474 _ _ ?_
    refine wp_ret ?_
    show bodyPost _ _ _ .ret _ _
    refine ret_of (vs := [.bool (true)]) Z Tryz.results3 ⟨rfl, trivial⟩ ?_
    exact ⟨rfl, o72⟩
theorem stells_v {w : World} (hG : Gr w) {v : Value} {l : List ActM} (f1 : ActsV w w v l) {h : Int} (hh : I64 h) : Calls Tryz.prog 3 #[v, .int .i64 h] w (Fix (.bool true) w) := by
 obtain ⟨A1, c1, rfl, _⟩ := SliceOf.shape f1
 exact stells_v_ hG f1 hh
end
end Go.Proofs.YtdegmpigkgkafaaGreatDoor
