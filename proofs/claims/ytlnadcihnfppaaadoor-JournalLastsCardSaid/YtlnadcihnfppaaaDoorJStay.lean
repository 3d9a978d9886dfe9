/-
  JournalStays, walked: it returns true. No condition but the listed variables.
-/
import Derived.Test.YtlnadcihnfppaaaDoorJC
import Derived.Test.YtlnadcihnfppaaaDoorJSA
namespace Go.Proofs.YtlnadcihnfppaaaDoor
set_option linter.unusedVariables false
set_option linter.unusedSimpArgs false
set_option linter.unusedSectionVars false
open Go.RowKit

theorem ops_up {w w' W : World} {v : Value} {l : List OpM} (h : SliceOf AllB 4 (KOp w).R W v l) (o : Only NoF w w') : SliceOf AllB 4 (KOp w').R W v l :=
  SliceOf.only h (Only.refl NoF W) (fun _ _ h => h) fun cs x _ hR => ⟨hR.1, hR.2.1, hR.2.2.1, hR.2.2.2.1, SliceOf.kp hR.2.2.2.2 o (fun _ _ h => h) (fun _ _ _ _ h => h)⟩
theorem eq_ptrN {P : Program} {w : World} {t e : TypeId} (hu : P.underlying t = some (.pointer e)) : (Op.equal t (.pointer none) (.pointer none)).run P w = .ok true w := by
  exact eq_ptr0 hu
theorem r_neNN {P : Program} {w : World} {n : Nat} {l : List (Nat × Value)} {a : Act} {dst : Option Tmp} {ty : TypeId} {pos : String} {aft : Array Edge} {g : Option (Nat × Bool)} {x y : Operand} {t yt e : TypeId} (hu : P.underlying t = some (.pointer e)) (H : Fr n l a) (hx : ev l x = some (.pointer none)) (hy : ev l y = some (.pointer none)) : (execOp a.eval ⟨dst, .binOp .neq t x y yt, ty, pos, aft, g⟩).run P w = .ok (.value (.bool false)) w := by
  have hg : (eqGuard .neq t x y (.pointer none) (.pointer none)).run P w = .ok () w := by simp [eqGuard]
  simp only [execOp, H.eval hx, H.eval hy, Sem.run_bind, hg, Result.andThen_ok, binOp, eq_ptrN hu, Sem.run_pure, Bool.not_true]
theorem r_eqNN {P : Program} {w : World} {n : Nat} {l : List (Nat × Value)} {a : Act} {dst : Option Tmp} {ty : TypeId} {pos : String} {aft : Array Edge} {g : Option (Nat × Bool)} {x y : Operand} {t yt e : TypeId} (hu : P.underlying t = some (.pointer e)) (H : Fr n l a) (hx : ev l x = some (.pointer none)) (hy : ev l y = some (.pointer none)) : (execOp a.eval ⟨dst, .binOp .eql t x y yt, ty, pos, aft, g⟩).run P w = .ok (.value (.bool true)) w := by
  have hg : (eqGuard .eql t x y (.pointer none) (.pointer none)).run P w = .ok () w := by simp [eqGuard]
  simp only [execOp, H.eval hx, H.eval hy, Sem.run_bind, hg, Result.andThen_ok, binOp, eq_ptrN hu, Sem.run_pure]
theorem r_neJ {P : Program} {w : World} {n : Nat} {l : List (Nat × Value)} {a : Act} {dst : Option Tmp} {ty : TypeId} {pos : String} {aft : Array Edge} {g : Option (Nat × Bool)} {x y : Operand} {t yt e : TypeId} {oj : Option (Nat × Jn)} (hu : P.underlying t = some (.pointer e)) (H : Fr n l a) (hx : ev l x = some (jp oj)) (hy : ev l y = some (.pointer none)) : (execOp a.eval ⟨dst, .binOp .neq t x y yt, ty, pos, aft, g⟩).run P w = .ok (.value (.bool oj.isSome)) w := by
  rcases oj with _ | ⟨p, J⟩
  · exact r_neNN hu H hx hy
  · exact r_neP hu H hx hy
theorem r_eqJ {P : Program} {w : World} {n : Nat} {l : List (Nat × Value)} {a : Act} {dst : Option Tmp} {ty : TypeId} {pos : String} {aft : Array Edge} {g : Option (Nat × Bool)} {x y : Operand} {t yt e : TypeId} {oj : Option (Nat × Jn)} (hu : P.underlying t = some (.pointer e)) (H : Fr n l a) (hx : ev l x = some (jp oj)) (hy : ev l y = some (.pointer none)) : (execOp a.eval ⟨dst, .binOp .eql t x y yt, ty, pos, aft, g⟩).run P w = .ok (.value (.bool (!oj.isSome))) w := by
  rcases oj with _ | ⟨p, J⟩
  · exact r_eqNN hu H hx hy
  · exact r_eqP hu H hx hy
theorem sinv_n {i : Nat} {D : Dsk} {J : Jn} (h : SInv i D (some J)) (hi : i ≤ 100) : J.n ≤ 1048576 ∧ J.l.length ≤ 1048576 := by
  obtain ⟨_, h2, h3⟩ := h
  obtain ⟨_, j2, j3, _⟩ := h3 J rfl
  have := forms_count J.l
  rw [j2] at h2
  omega
theorem stay_e {er : Int} {A B : Prop} (h : (er = 0 ∧ A) ∨ (er = 7 ∧ B)) : ¬ ((!decide (er = 0)) && (!decide (er = 7))) = true := by
  rcases h with ⟨h, _⟩ | ⟨h, _⟩ <;> simp [h]
theorem stay_1 {er : Int} {K J : Jn} {W : List Str} {t : Str} (hW : K.l = W) (h : (er = 0 ∧ J.l = K.l ++ [t]) ∨ (er = 7 ∧ J.l = K.l)) (h0 : er = 0) : J.l = W ++ [t] := by
  rcases h with ⟨_, h⟩ | ⟨h, _⟩
  · rw [h, hW]
  · omega
theorem stay_2 {er : Int} {K J : Jn} {W : List Str} {t : Str} (hW : K.l = W) (h : (er = 0 ∧ J.l = K.l ++ [t]) ∨ (er = 7 ∧ J.l = K.l)) (h0 : ¬ er = 0) : J.l = W := by
  rcases h with ⟨h, _⟩ | ⟨_, h⟩
  · exact absurd h h0
  · rw [h, hW]
set_option maxRecDepth 20000 in
set_option maxHeartbeats 4000000 in
theorem stays_v_ {w : World} (hG : Gr w) {l : List OpM} {A1 : Option Addr} {c1 : Nat} (f1 : OpsV w w (.slice A1 l.length c1) l) {q : List Str} {A2 : Option Addr} {c2 : Nat} (f2 : StrsV w (.slice A2 q.length c2) q) {o1 : List Int} {A3 : Option Addr} {c3 : Nat} (f3 : IntsV w (.slice A3 o1.length c3) o1) {o2 : List Int} {A4 : Option Addr} {c4 : Nat} (f4 : IntsV w (.slice A4 o2.length c4) o2) : Calls Tryd.prog 4 [.slice A1 l.length c1, .slice A2 q.length c2, .slice A3 o1.length c3, .slice A4 o2.length c4].toArray w (Fix (.bool true) w) := by
  refine calls_start Tryd.func4 rfl rfl ?_
  intro az Hz
  rw [Tryd.ntmps4] at Hz
  refine wp_seq_k fun K1 hK1 => ?_
  -- law.go:202
  refine wp_region_lit ?_
  refine L (r_as Hz rfl) Hz rfl ?_
  clear Hz az; intro az Hz
  refine hK1 _ _ ?_
  refine wp_seq_k fun K2 hK2 => ?_
  -- law.go:203
  refine wp_region_lit ?_
  have G3 := Gr.k hG (Only.refl NoF w)
  refine LCV (v := .bool (true)) Hz rfl rfl Tryd.call6 (small03_v G3) rfl fun w4 o5 => ?_
  clear Hz az; intro az Hz
  refine L (r_as Hz rfl) Hz rfl ?_
  clear Hz az; intro az Hz
  refine hK2 _ _ ?_
  refine wp_seq_k fun K6 hK6 => ?_
  refine wp_seq_k fun K7 hK7 => ?_
  -- law.go:204
  refine wp_region_lit ?_
  refine L (r_mv Hz rfl) Hz rfl ?_
  clear Hz az; intro az Hz
  have h8 := (SliceOf.kp f1 o5 (fun _ _ h => h) (fun _ _ _ _ h => h))
  refine LCE Hz rfl rfl Tryd.call21 (few03_v_ (ops_up h8 o5)) rfl fun b11 w9 hs12 o10 => ?_
  clear Hz az; intro az Hz
  refine L (r_not Hz rfl) Hz rfl ?_
  clear Hz az; intro az Hz
  refine L (r_mv Hz rfl) Hz rfl ?_
  clear Hz az; intro az Hz
  refine LG Hz rfl rfl gd_f (fun hb => r_mv Hz rfl) rfl ?_
  clear Hz az; intro az Hz
  have O13 : Only NoF w w9 := (Only.trans' o5 o10)
  have h14 := (SliceOf.kp f2 O13 (fun _ _ h => h) (fun _ _ _ _ h => h))
  refine LGE Hz rfl rfl gd_f rfl (fun hb => (evs_c (evg hb rfl) rfl)) Tryd.call22 (fun hb => texts03_v_ h14) rfl fun b17 w15 hs18 o16 => ?_
  clear Hz az; intro az Hz
  refine LG Hz rfl rfl gd_f (fun hb => r_not Hz (evg hb rfl)) rfl ?_
  clear Hz az; intro az Hz
  refine L (r_or Hz rfl rfl rfl) Hz rfl ?_
  clear Hz az; intro az Hz
  refine L (r_mv Hz rfl) Hz rfl ?_
  clear Hz az; intro az Hz
  refine LG Hz rfl rfl gd_f (fun hb => r_mv Hz rfl) rfl ?_
  clear Hz az; intro az Hz
  refine LG Hz rfl rfl gd_f (fun hb => r_lenL Tryd.underlying45 Hz (evg hb rfl)) rfl ?_
  clear Hz az; intro az Hz
  refine LG Hz rfl rfl gd_f (fun hb => r_gtI Hz (evg hb rfl) rfl) rfl ?_
  clear Hz az; intro az Hz
  refine L (r_or Hz rfl rfl rfl) Hz rfl ?_
  clear Hz az; intro az Hz
  refine L (r_mv Hz rfl) Hz rfl ?_
  clear Hz az; intro az Hz
  refine LG Hz rfl rfl gd_f (fun hb => r_mv Hz rfl) rfl ?_
  clear Hz az; intro az Hz
  refine LG Hz rfl rfl gd_f (fun hb => r_lenL Tryd.underlying45 Hz (evg hb rfl)) rfl ?_
  clear Hz az; intro az Hz
  refine LG Hz rfl rfl gd_f (fun hb => r_gtI Hz (evg hb rfl) rfl) rfl ?_
  clear Hz az; intro az Hz
  refine L (r_or Hz rfl rfl rfl) Hz rfl ?_
  clear Hz az; intro az Hz
  refine hK7 _ _ ?_
  refine br Hz rfl (fun hc19 => ?_) (fun hc19 => ?_)
  · -- if0
    have d20 := hc19
    refine wp_seq_k fun K21 hK21 => ?_
    -- law.go:205
    refine wp_region_lit ?_
    refine L (r_mv Hz rfl) Hz rfl ?_
    clear Hz az; intro az Hz
    refine L (r_as Hz rfl) Hz rfl ?_
    clear Hz az; intro az Hz
    refine hK21 _ _ ?_
    refine wp_ret ?_
    show bodyPost _ _ _ .ret _ _
    refine ret_of (vs := [.bool (true)]) Hz Tryd.results4 ⟨rfl, trivial⟩ ?_
    have O22 : Only NoF w w15 := (Only.trans' O13 o16)
    exact ⟨rfl, O22⟩
  · -- else0
    have q23 : b11 = true := (nt_f (or_f (or_f (or_f hc19).1).1).1)
    have S24 := hs12 q23
    have q25 : b17 = true := (nt_f (or_f (or_f (or_f hc19).1).1).2)
    have S26 := hs18 (by rw [q23]; rfl) q25
    have p27 := of_decide_eq_false (or_f (or_f hc19).1).2
    have p28 := of_decide_eq_false (or_f hc19).2
    have hfo := S24; have hfs := S26; have hfl := hfo.1; have hfq := hfs.1
    refine wp_skip ?_
    refine hK6 _ _ ?_
    refine wp_seq_k fun K29 hK29 => ?_
    -- law.go:207
    refine wp_region_lit ?_
    refine LC Hz rfl rfl Tryd.call7 (dNew_l _) rfl ?_
    rintro e w32 ⟨b30, F31, rfl, h33, o34, hge35⟩; refine ⟨_, rfl, ?_⟩
    have h36 : JO b30 Dsk.init none w32 F31 := h33
    clear Hz az; intro az Hz
    refine L (r_as Hz rfl) Hz rfl ?_
    clear Hz az; intro az Hz
    refine hK29 _ _ ?_
    refine wp_seq_k fun K37 hK37 => ?_
    refine wp_seq_k fun K38 hK38 => ?_
    -- law.go:208
    refine wp_region_lit ?_
    refine L (r_mv Hz rfl) Hz rfl ?_
    clear Hz az; intro az Hz
    refine L (r_eqP Tryd.underlying23 Hz rfl rfl) Hz rfl ?_
    clear Hz az; intro az Hz
    refine hK38 _ _ ?_
    refine br_false Hz rfl ?_
    refine wp_skip ?_
    refine hK37 _ _ ?_
    refine wp_seq_k fun K39 hK39 => ?_
    -- law.go:211
    refine wp_region_lit ?_
    refine L (r_mv Hz rfl) Hz rfl ?_
    clear Hz az; intro az Hz
    have O49 : Only NoF w w32 := (Only.trans' (Only.trans' O13 o16) o34)
    have G48 := Gr.k hG O49
    have O50 : Only NoF w w15 := (Only.trans' O13 o16)
    refine LC Hz rfl rfl Tryd.call9 (open_o G48 (show JO b30 Dsk.init none w32 F31 from h36) (fun k hk => Nat.le_trans (Nat.le_trans hG.1 (size_only O50)) (hge35 k (.inl hk)))) rfl ?_
    rintro e w41 ⟨oj40, hm43, rfl, F42, h44, o45, fm46, fr47⟩; refine ⟨_, rfl, ?_⟩
    have hge51 := ge_next hge35 (size_only o34) fm46 fr47
    clear Hz az; intro az Hz
    refine L (r_mv Hz rfl) Hz rfl ?_
    clear Hz az; intro az Hz
    refine L (r_ex Hz rfl rfl) Hz rfl ?_
    clear Hz az; intro az Hz
    refine L (r_ex Hz rfl rfl) Hz rfl ?_
    clear Hz az; intro az Hz
    refine L (r_as Hz rfl) Hz rfl ?_
    clear Hz az; intro az Hz
    refine L (r_as Hz rfl) Hz rfl ?_
    clear Hz az; intro az Hz
    refine hK39 _ _ ?_
    refine wp_seq_k fun K52 hK52 => ?_
    refine wp_seq_k fun K53 hK53 => ?_
    -- law.go:212
    refine wp_region_lit ?_
    refine L (r_as Hz rfl) Hz rfl ?_
    clear Hz az; intro az Hz
    refine hK53 _ _ ?_
    refine wp_block ?_
    refine wp_loop_m (fun mz az W => ∃ i : Nat, ∃ D : Dsk, ∃ oj : Option (Nat × Jn), ∃ F : Foot, mz = l.length - i ∧ Fr 181 [(0, .slice A1 (l.length) c1), (1, .slice A2 (q.length) c2), (2, .slice A3 (o1.length) c3), (3, .slice A4 (o2.length) c4), (9, .bool (true)), (10, .pointer (some ⟨b30, 0, none⟩)), (13, .int .i64 ((i : Int))), (11, jp oj)] az ∧ (i ≤ l.length) ∧ (SInv i D (oj.map (·.2))) ∧ Only NoF w W ∧ JO b30 D oj W F ∧ (∀ k, F.all k → w.heap.size ≤ k)) ?_ ?_
    · -- start
      have O54 : Only NoF w w41 := (o_sg O49 o45 (size_only O50) (fun k h => hge35 k (.inl h)))
      exact ⟨_, 0, (openJ Dsk.init 0).1, oj40, F42, rfl, Hz.cut ⟨rfl, rfl, rfl, rfl, rfl, rfl, rfl, rfl, trivial⟩, Nat.zero_le _, (by rw [hm43]; exact SInv.init.open), O54, h44, (fun k hk => Nat.le_trans (size_only O50) (hge51 k hk))⟩
    clear Hz az
    rintro mz az w55 ⟨i, D, oj, F, hm57, Hz, hi, hs, o56, hT, hgeT⟩
    refine wp_seq_k fun K58 hK58 => ?_
    refine wp_seq_k fun K59 hK59 => ?_
    -- law.go:212
    refine wp_region_lit ?_
    refine L (r_mv Hz rfl) Hz rfl ?_
    clear Hz az; intro az Hz
    refine L (r_mv Hz rfl) Hz rfl ?_
    clear Hz az; intro az Hz
    refine L (r_lenL Tryd.underlying44 Hz rfl) Hz rfl ?_
    clear Hz az; intro az Hz
    refine L (r_ltI Hz rfl rfl) Hz rfl ?_
    clear Hz az; intro az Hz
    refine hK59 _ _ ?_
    refine br Hz rfl (fun hc60 => ?_) (fun hc60 => ?_)
    · -- if2
      have p61 := of_decide_eq_true hc60
      refine wp_skip ?_
      refine hK58 _ _ ?_
      refine wp_seq_k fun K62 hK62 => ?_
      refine wp_block ?_
      refine wp_seq_k fun K63 hK63 => ?_
      -- law.go:213
      refine wp_region_lit ?_
      refine L (r_mv Hz rfl) Hz rfl ?_
      clear Hz az; intro az Hz
      refine L (r_mv Hz rfl) Hz rfl ?_
      clear Hz az; intro az Hz
      have hk64 : i < (l).length := by omega
      have h70 := (SliceOf.kp f1 o56 (fun _ _ h => h) (fun _ _ _ _ h => h))
      obtain ⟨m65, hm66, ok67, hA68⟩ := Row.el (KOp w) h70 hk64
      have E69 : ∀ W, Only NoF w55 W → CA W (eA A1 4 (i)) [.int .i64 (m65.k), strV (m65.s), .int .i64 (m65.n), .slice m65.A (m65.l.length) m65.c] := Row.ce (KOp w) h70 hm66 rfl
      refine L (r_ia (k := i) (size := 4) Tryd.underlying44 Tryd.sizeOf49 Hz rfl rfl rfl hk64 hA68) Hz rfl ?_
      clear Hz az; intro az Hz
      refine L (r_fa (m' := 0) Tryd.underlying49 rfl Tryd.sizeOf3 rfl Hz rfl rfl) Hz rfl ?_
      clear Hz az; intro az Hz
      refine L (r_ld Tryd.isAgg3 Hz rfl ((E69 _ (Only.refl NoF w55)) 0 _ rfl)) Hz rfl ?_
      clear Hz az; intro az Hz
      refine hK63 _ _ ?_
      refine wp_block ?_
      refine wp_seq_k fun K71 hK71 => ?_
      -- law.go:214
      refine wp_region_lit ?_
      refine L (r_eqI Hz rfl rfl) Hz rfl ?_
      clear Hz az; intro az Hz
      refine L (r_as Hz rfl) Hz rfl ?_
      clear Hz az; intro az Hz
      refine hK71 _ _ ?_
      refine br Hz rfl (fun hc72 => ?_) (fun hc72 => ?_)
      · -- if3
        have p73 := of_decide_eq_true hc72
        refine wp_seq_k fun K74 hK74 => ?_
        -- law.go:215
        refine wp_region_lit ?_
        refine L (r_mv Hz rfl) Hz rfl ?_
        clear Hz az; intro az Hz
        refine L (r_neJ Tryd.underlying27 Hz rfl rfl) Hz rfl ?_
        clear Hz az; intro az Hz
        refine hK74 _ _ ?_
        refine br Hz rfl (fun hc75 => ?_) (fun hc75 => ?_)
        · -- if4
          have q76 : oj.isSome = true := hc75
          obtain ⟨g77, J78, hj79⟩ := isS_t q76; subst hj79
          have h80 : (JT b30 g77 D J78) w55 F := hT
          -- law.go:216
          refine wp_region_lit ?_
          refine L (r_mv Hz rfl) Hz rfl ?_
          clear Hz az; intro az Hz
          refine L (r_mv Hz rfl) Hz rfl ?_
          clear Hz az; intro az Hz
          refine L (r_mv Hz rfl) Hz rfl ?_
          clear Hz az; intro az Hz
          refine L (r_ia (k := i) (size := 4) Tryd.underlying44 Tryd.sizeOf49 Hz rfl rfl rfl hk64 hA68) Hz rfl ?_
          clear Hz az; intro az Hz
          refine L (r_fa (m' := 1) Tryd.underlying49 rfl Tryd.sizeOf9 rfl Hz rfl rfl) Hz rfl ?_
          clear Hz az; intro az Hz
          refine L (r_ld Tryd.isAgg9 Hz rfl ((E69 _ (Only.refl NoF w55)) 1 _ rfl)) Hz rfl ?_
          clear Hz az; intro az Hz
          have G81 := Gr.k hG o56
          refine LC Hz rfl rfl Tryd.call23 (append_o (t := m65.s) G81 h80 (fun k hk => Nat.le_trans (Nat.le_trans hG.1 (Nat.le_refl _)) (hgeT k (.inl hk))) (by have := (hfo.2 _ (List.mem_of_getElem? hm66)).1; omega) (sinv_n hs (by omega)).1 (sinv_n hs (by omega)).2) rfl ?_
          rintro e w82 ⟨rfl, F83, h84, o85, fm86, fr87⟩; refine ⟨_, rfl, ?_⟩
          have hge88 := ge_next hgeT (size_only o56) fm86 fr87
          clear Hz az; intro az Hz
          have hx89 := SInv.append (J := J78) hs (by omega) (hfo.2 _ (List.mem_of_getElem? hm66)).1
          refine hK62 _ _ ?_
          -- law.go:212
          refine wp_region_lit ?_
          refine L (r_mv Hz rfl) Hz rfl ?_
          clear Hz az; intro az Hz
          have i90 : I64 (((i : Int) + 1)) := by unfold I64; omega
          refine L (r_addI (r := ((i : Int) + 1)) Hz rfl rfl rfl i90) Hz rfl ?_
          clear Hz az; intro az Hz
          refine L (r_as Hz rfl) Hz rfl ?_
          clear Hz az; intro az Hz
          have O91 : Only NoF w w82 := (o_sg o56 o85 (Nat.le_refl _) (fun k h => hgeT k (.inl h)))
          exact ⟨_, (by omega), i + 1, (Jn.append J78 D m65.s).1, some (g77, (Jn.append J78 D m65.s).2.1), F83, rfl, Hz.cut ⟨rfl, rfl, rfl, rfl, rfl, rfl, rfl, rfl, trivial⟩, (by omega), hx89.1, O91, h84, hge88⟩
        · -- else4
          have q92 : oj.isSome = false := hc75
          have hj93 := isS_f q92; subst hj93
          have h94 : (DiskT b30 D) w55 F := hT
          refine wp_skip ?_
          refine hK62 _ _ ?_
          -- law.go:212
          refine wp_region_lit ?_
          refine L (r_mv Hz rfl) Hz rfl ?_
          clear Hz az; intro az Hz
          have i95 : I64 (((i : Int) + 1)) := by unfold I64; omega
          refine L (r_addI (r := ((i : Int) + 1)) Hz rfl rfl rfl i95) Hz rfl ?_
          clear Hz az; intro az Hz
          refine L (r_as Hz rfl) Hz rfl ?_
          clear Hz az; intro az Hz
          exact ⟨_, (by omega), i + 1, D, none, F, rfl, Hz.cut ⟨rfl, rfl, rfl, rfl, rfl, rfl, rfl, rfl, trivial⟩, (by omega), (SInv.mono hs (Nat.le_succ _)), o56, hT, hgeT⟩
      · -- else3
        have p96 := of_decide_eq_false hc72
        refine wp_seq_k fun K97 hK97 => ?_
        -- law.go:218
        refine wp_region_lit ?_
        refine L (r_eqI Hz rfl rfl) Hz rfl ?_
        clear Hz az; intro az Hz
        refine L (r_as Hz rfl) Hz rfl ?_
        clear Hz az; intro az Hz
        refine hK97 _ _ ?_
        refine br Hz rfl (fun hc98 => ?_) (fun hc98 => ?_)
        · -- if5
          have p99 := of_decide_eq_true hc98
          refine wp_seq_k fun K100 hK100 => ?_
          -- law.go:219
          refine wp_region_lit ?_
          refine L (r_mv Hz rfl) Hz rfl ?_
          clear Hz az; intro az Hz
          refine L (r_neJ Tryd.underlying27 Hz rfl rfl) Hz rfl ?_
          clear Hz az; intro az Hz
          refine hK100 _ _ ?_
          refine br Hz rfl (fun hc101 => ?_) (fun hc101 => ?_)
          · -- if6
            have q102 : oj.isSome = true := hc101
            obtain ⟨g103, J104, hj105⟩ := isS_t q102; subst hj105
            have h106 : (JT b30 g103 D J104) w55 F := hT
            -- law.go:220
            refine wp_region_lit ?_
            refine L (r_mv Hz rfl) Hz rfl ?_
            clear Hz az; intro az Hz
            have G107 := Gr.k hG o56
            refine LC Hz rfl rfl Tryd.call24 (sync_o G107 h106 (fun k hk => Nat.le_trans (Nat.le_trans hG.1 (Nat.le_refl _)) (hgeT k (.inl hk)))) rfl ?_
            rintro e w108 ⟨rfl, F109, h110, o111, fm112, fr113⟩; refine ⟨_, rfl, ?_⟩
            have hge114 := ge_next hgeT (size_only o56) fm112 fr113
            clear Hz az; intro az Hz
            have hx115 := SInv.sync (J := J104) hs
            refine hK62 _ _ ?_
            -- law.go:212
            refine wp_region_lit ?_
            refine L (r_mv Hz rfl) Hz rfl ?_
            clear Hz az; intro az Hz
            have i116 : I64 (((i : Int) + 1)) := by unfold I64; omega
            refine L (r_addI (r := ((i : Int) + 1)) Hz rfl rfl rfl i116) Hz rfl ?_
            clear Hz az; intro az Hz
            refine L (r_as Hz rfl) Hz rfl ?_
            clear Hz az; intro az Hz
            have O117 : Only NoF w w108 := (o_sg o56 o111 (Nat.le_refl _) (fun k h => hgeT k (.inl h)))
            exact ⟨_, (by omega), i + 1, (Jn.sync J104 D).1, some (g103, (Jn.sync J104 D).2.1), F109, rfl, Hz.cut ⟨rfl, rfl, rfl, rfl, rfl, rfl, rfl, rfl, trivial⟩, (by omega), (SInv.mono hx115.1 (Nat.le_succ _)), O117, h110, hge114⟩
          · -- else6
            have q118 : oj.isSome = false := hc101
            have hj119 := isS_f q118; subst hj119
            have h120 : (DiskT b30 D) w55 F := hT
            refine wp_skip ?_
            refine hK62 _ _ ?_
            -- law.go:212
            refine wp_region_lit ?_
            refine L (r_mv Hz rfl) Hz rfl ?_
            clear Hz az; intro az Hz
            have i121 : I64 (((i : Int) + 1)) := by unfold I64; omega
            refine L (r_addI (r := ((i : Int) + 1)) Hz rfl rfl rfl i121) Hz rfl ?_
            clear Hz az; intro az Hz
            refine L (r_as Hz rfl) Hz rfl ?_
            clear Hz az; intro az Hz
            exact ⟨_, (by omega), i + 1, D, none, F, rfl, Hz.cut ⟨rfl, rfl, rfl, rfl, rfl, rfl, rfl, rfl, trivial⟩, (by omega), (SInv.mono hs (Nat.le_succ _)), o56, hT, hgeT⟩
        · -- else5
          have p122 := of_decide_eq_false hc98
          refine wp_seq_k fun K123 hK123 => ?_
          -- law.go:222
          refine wp_region_lit ?_
          refine L (r_eqI Hz rfl rfl) Hz rfl ?_
          clear Hz az; intro az Hz
          refine L (r_as Hz rfl) Hz rfl ?_
          clear Hz az; intro az Hz
          refine hK123 _ _ ?_
          refine br Hz rfl (fun hc124 => ?_) (fun hc124 => ?_)
          · -- if7
            have p125 := of_decide_eq_true hc124
            -- law.go:223
            refine wp_region_lit ?_
            refine L (r_mv Hz rfl) Hz rfl ?_
            clear Hz az; intro az Hz
            refine L (r_mv Hz rfl) Hz rfl ?_
            clear Hz az; intro az Hz
            refine L (r_mv Hz rfl) Hz rfl ?_
            clear Hz az; intro az Hz
            refine L (r_ia (k := i) (size := 4) Tryd.underlying44 Tryd.sizeOf49 Hz rfl rfl rfl hk64 hA68) Hz rfl ?_
            clear Hz az; intro az Hz
            refine L (r_fa (m' := 2) Tryd.underlying49 rfl Tryd.sizeOf3 rfl Hz rfl rfl) Hz rfl ?_
            clear Hz az; intro az Hz
            refine L (r_ld Tryd.isAgg3 Hz rfl ((E69 _ (Only.refl NoF w55)) 2 _ rfl)) Hz rfl ?_
            clear Hz az; intro az Hz
            refine LC Hz rfl rfl Tryd.call25 (lose_o (n := m65.n) (show JO b30 D oj w55 F from hT) ok67.2.2.1) rfl ?_
            rintro e w126 ⟨rfl, F127, h128, o129, fm130, fr131⟩; refine ⟨_, rfl, ?_⟩
            have hge132 := ge_next hgeT (size_only o56) fm130 fr131
            clear Hz az; intro az Hz
            refine hK62 _ _ ?_
            -- law.go:212
            refine wp_region_lit ?_
            refine L (r_mv Hz rfl) Hz rfl ?_
            clear Hz az; intro az Hz
            have i133 : I64 (((i : Int) + 1)) := by unfold I64; omega
            refine L (r_addI (r := ((i : Int) + 1)) Hz rfl rfl rfl i133) Hz rfl ?_
            clear Hz az; intro az Hz
            refine L (r_as Hz rfl) Hz rfl ?_
            clear Hz az; intro az Hz
            have O134 : Only NoF w w126 := (o_sg o56 o129 (Nat.le_refl _) (fun k h => hgeT k (.inl h)))
            exact ⟨_, (by omega), i + 1, (Dsk.lose D m65.n), oj, F127, rfl, Hz.cut ⟨rfl, rfl, rfl, rfl, rfl, rfl, rfl, rfl, trivial⟩, (by omega), ((SInv.lose hs (n := m65.n) ok67.2.2.1).mono (Nat.le_succ _)), O134, h128, hge132⟩
          · -- else7
            have p135 := of_decide_eq_false hc124
            refine wp_seq_k fun K136 hK136 => ?_
            -- law.go:224
            refine wp_region_lit ?_
            refine L (r_eqI Hz rfl rfl) Hz rfl ?_
            clear Hz az; intro az Hz
            refine L (r_as Hz rfl) Hz rfl ?_
            clear Hz az; intro az Hz
            refine hK136 _ _ ?_
            refine br Hz rfl (fun hc137 => ?_) (fun hc137 => ?_)
            · -- if8
              have p138 := of_decide_eq_true hc137
              refine wp_seq_k fun K139 hK139 => ?_
              -- law.go:225
              refine wp_region_lit ?_
              refine L (r_mv Hz rfl) Hz rfl ?_
              clear Hz az; intro az Hz
              refine L (r_mv Hz rfl) Hz rfl ?_
              clear Hz az; intro az Hz
              refine L (r_mv Hz rfl) Hz rfl ?_
              clear Hz az; intro az Hz
              refine L (r_ia (k := i) (size := 4) Tryd.underlying44 Tryd.sizeOf49 Hz rfl rfl rfl hk64 hA68) Hz rfl ?_
              clear Hz az; intro az Hz
              refine L (r_fa (m' := 3) Tryd.underlying49 rfl Tryd.sizeOf45 rfl Hz rfl rfl) Hz rfl ?_
              clear Hz az; intro az Hz
              refine L (r_ld Tryd.isAgg45 Hz rfl ((E69 _ (Only.refl NoF w55)) 3 _ rfl)) Hz rfl ?_
              clear Hz az; intro az Hz
              refine LC Hz rfl rfl Tryd.call26 (crash_o (show JO b30 D oj w55 F from hT) ok67.2.2.2 o56 (by have := (hfo.2 _ (List.mem_of_getElem? hm66)).2; omega) (fun k hk => Nat.le_trans (Nat.le_refl _) (hgeT k (.inl hk)))) rfl ?_
              rintro e w140 ⟨rfl, F141, h142, o143, fm144, fr145⟩; refine ⟨_, rfl, ?_⟩
              have hge146 := ge_next hgeT (size_only o56) fm144 fr145
              clear Hz az; intro az Hz
              refine hK139 _ _ ?_
              refine wp_seq_k fun K147 hK147 => ?_
              -- law.go:226
              refine wp_region_lit ?_
              refine L (r_mv Hz rfl) Hz rfl ?_
              clear Hz az; intro az Hz
              refine LC Hz rfl rfl Tryd.call27 (start_o (show JO b30 (Dsk.crash D m65.l) oj w140 F141 from h142)) rfl ?_
              rintro e w148 ⟨rfl, F149, h150, o151, fm152, fr153⟩; refine ⟨_, rfl, ?_⟩
              have O154 : Only NoF w w140 := (o_sg o56 o143 (Nat.le_refl _) (fun k h => hgeT k (.inl h)))
              have hge155 := ge_next hge146 (size_only O154) fm152 fr153
              clear Hz az; intro az Hz
              refine hK147 _ _ ?_
              -- law.go:227
              refine wp_region_lit ?_
              refine L (r_mv Hz rfl) Hz rfl ?_
              clear Hz az; intro az Hz
              have O165 : Only NoF w w148 := (o_sg O154 o151 (Nat.le_refl _) (fun k h => hge146 k (.inl h)))
              have G164 := Gr.k hG O165
              refine LC Hz rfl rfl Tryd.call9 (open_o G164 (show JO b30 (Dsk.start (Dsk.crash D m65.l)) oj w148 F149 from h150) (fun k hk => Nat.le_trans (Nat.le_trans hG.1 (Nat.le_refl _)) (hge155 k (.inl hk)))) rfl ?_
              rintro e w157 ⟨oj156, hm159, rfl, F158, h160, o161, fm162, fr163⟩; refine ⟨_, rfl, ?_⟩
              have hge166 := ge_next hge155 (size_only O165) fm162 fr163
              clear Hz az; intro az Hz
              refine L (r_mv Hz rfl) Hz rfl ?_
              clear Hz az; intro az Hz
              refine L (r_ex Hz rfl rfl) Hz rfl ?_
              clear Hz az; intro az Hz
              refine L (r_ex Hz rfl rfl) Hz rfl ?_
              clear Hz az; intro az Hz
              refine L (r_as Hz rfl) Hz rfl ?_
              clear Hz az; intro az Hz
              refine hK62 _ _ ?_
              -- law.go:212
              refine wp_region_lit ?_
              refine L (r_mv Hz rfl) Hz rfl ?_
              clear Hz az; intro az Hz
              have i167 : I64 (((i : Int) + 1)) := by unfold I64; omega
              refine L (r_addI (r := ((i : Int) + 1)) Hz rfl rfl rfl i167) Hz rfl ?_
              clear Hz az; intro az Hz
              refine L (r_as Hz rfl) Hz rfl ?_
              clear Hz az; intro az Hz
              have O168 : Only NoF w w157 := (o_sg O165 o161 (Nat.le_refl _) (fun k h => hge155 k (.inl h)))
              exact ⟨_, (by omega), i + 1, (openJ (Dsk.start (Dsk.crash D m65.l)) 0).1, oj156, F158, rfl, Hz.cut ⟨rfl, rfl, rfl, rfl, rfl, rfl, rfl, rfl, trivial⟩, (by omega), (by rw [hm159]; exact (SInv.crash hs m65.l).open.mono (Nat.le_succ _)), O168, h160, hge166⟩
            · -- else8
              have p169 := of_decide_eq_false hc137
              refine wp_skip ?_
              refine hK62 _ _ ?_
              -- law.go:212
              refine wp_region_lit ?_
              refine L (r_mv Hz rfl) Hz rfl ?_
              clear Hz az; intro az Hz
              have i170 : I64 (((i : Int) + 1)) := by unfold I64; omega
              refine L (r_addI (r := ((i : Int) + 1)) Hz rfl rfl rfl i170) Hz rfl ?_
              clear Hz az; intro az Hz
              refine L (r_as Hz rfl) Hz rfl ?_
              clear Hz az; intro az Hz
              exact ⟨_, (by omega), i + 1, D, oj, F, rfl, Hz.cut ⟨rfl, rfl, rfl, rfl, rfl, rfl, rfl, rfl, trivial⟩, (by omega), (SInv.mono hs (Nat.le_succ _)), o56, hT, hgeT⟩
    · -- else2
      have p171 := of_decide_eq_false hc60
      refine wp_exit ?_
      refine th_exit ?_
      refine th_exit ?_
      refine ib_hit ?_
      refine hK52 _ _ ?_
      refine wp_seq_k fun K172 hK172 => ?_
      refine wp_seq_k fun K173 hK173 => ?_
      -- law.go:230
      refine wp_region_lit ?_
      refine L (r_mv Hz rfl) Hz rfl ?_
      clear Hz az; intro az Hz
      refine L (r_eqJ Tryd.underlying27 Hz rfl rfl) Hz rfl ?_
      clear Hz az; intro az Hz
      refine hK173 _ _ ?_
      refine br Hz rfl (fun hc174 => ?_) (fun hc174 => ?_)
      · -- if9
        have q175 : oj.isSome = false := (nt_t hc174)
        have hj176 := isS_f q175; subst hj176
        have h177 : (DiskT b30 D) w55 F := hT
        refine wp_seq_k fun K178 hK178 => ?_
        -- law.go:231
        refine wp_region_lit ?_
        refine L (r_mv Hz rfl) Hz rfl ?_
        clear Hz az; intro az Hz
        refine L (r_as Hz rfl) Hz rfl ?_
        clear Hz az; intro az Hz
        refine hK178 _ _ ?_
        refine wp_ret ?_
        show bodyPost _ _ _ .ret _ _
        refine ret_of (vs := [.bool (true)]) Hz Tryd.results4 ⟨rfl, trivial⟩ ?_
        exact ⟨rfl, o56⟩
      · -- else9
        have q179 : oj.isSome = true := (nt_f hc174)
        obtain ⟨g180, J181, hj182⟩ := isS_t q179; subst hj182
        have h183 : (JT b30 g180 D J181) w55 F := hT
        refine wp_skip ?_
        refine hK172 _ _ ?_
        refine wp_seq_k fun K184 hK184 => ?_
        -- law.go:233
        refine wp_region_lit ?_
        refine L (r_mv Hz rfl) Hz rfl ?_
        clear Hz az; intro az Hz
        have okl190 := okB (BothT.l (X := JB b30 g180 J181) h183)
        refine LC Hz rfl rfl Tryd.call10 (all_b (BothT.l (X := JB b30 g180 J181) h183) (Nat.le_trans (sinv_n hs (by omega)).2 (by decide))) rfl ?_
        rintro e w185 ⟨A186, c187, rfl, r188, o189⟩; refine ⟨_, rfl, ?_⟩
        clear Hz az; intro az Hz
        refine L (r_as Hz rfl) Hz rfl ?_
        clear Hz az; intro az Hz
        refine hK184 _ _ ?_
        refine wp_seq_k fun K191 hK191 => ?_
        refine wp_seq_k fun K192 hK192 => ?_
        -- law.go:234
        refine wp_region_lit ?_
        refine L (r_as Hz rfl) Hz rfl ?_
        clear Hz az; intro az Hz
        refine hK192 _ _ ?_
        refine wp_block ?_
        refine wp_loop_m (fun mz az W => ∃ k : Nat, ∃ E : Dsk, ∃ K : Jn, ∃ Wn : List Str, ∃ Aw : Option Addr, ∃ cw : Nat, ∃ F1 : Foot, mz = q.length - k ∧ Fr 181 [(1, .slice A2 (q.length) c2), (2, .slice A3 (o1.length) c3), (3, .slice A4 (o2.length) c4), (9, .bool (true)), (10, .pointer (some ⟨b30, 0, none⟩)), (11, .pointer (some ⟨g180, 0, none⟩)), (15, .int .i64 ((k : Int))), (14, .slice Aw (Wn.length) cw)] az ∧ (k ≤ q.length) ∧ (SInv (25 + k) E (some K)) ∧ (K.l = Wn) ∧ (∀ z ∈ Wn, KStr.ok z) ∧ Only NoF w W ∧ W.ownsRow w.heap.size 9 1 (.slice Aw Wn.length cw) Wn.length (List.flatMap KStr.cells Wn) ∧ JT b30 g180 E K W F1 ∧ (∀ k, F1.all k → w.heap.size ≤ k) ∧ (∀ k, ownF (.slice Aw Wn.length cw) k → ¬ F1.all k)) ?_ ?_
        · -- start
          have O193 : Only NoF w w185 := (Only.trans' o56 o189)
          have T194 : (JT b30 g180 D J181) w185 F := ((jt_good _ _ _ _).only h183 o189 (fun _ _ h => h))
          exact ⟨_, 0, D, J181, _, A186, c187, F, rfl, Hz.cut ⟨rfl, rfl, rfl, rfl, rfl, rfl, rfl, rfl, trivial⟩, Nat.zero_le _, (SInv.mono hs (by omega)), rfl, okl190, O193, (ow_low r188 ((size_only o56))), T194, hgeT, (fun k hk h => absurd ((jt_good _ _ _ _).lt h183 _ h) (Nat.not_lt.2 (Nat.le_trans (Nat.le_refl _) (ownF_ge r188 k hk))))⟩
        clear Hz az
        rintro mz az w195 ⟨k, E, K, Wn, Aw, cw, F1, hm197, Hz, hk, hs1, hW, okW, o196, rO, hT1, hgeT1, sW⟩
        have hwl : Wn.length ≤ 1048576 := by rw [← hW]; exact (sinv_n hs1 (by omega)).2
        refine wp_seq_k fun K198 hK198 => ?_
        refine wp_seq_k fun K199 hK199 => ?_
        -- law.go:234
        refine wp_region_lit ?_
        refine L (r_mv Hz rfl) Hz rfl ?_
        clear Hz az; intro az Hz
        refine L (r_mv Hz rfl) Hz rfl ?_
        clear Hz az; intro az Hz
        refine L (r_lenL Tryd.underlying30 Hz rfl) Hz rfl ?_
        clear Hz az; intro az Hz
        refine L (r_ltI Hz rfl rfl) Hz rfl ?_
        clear Hz az; intro az Hz
        refine hK199 _ _ ?_
        refine br Hz rfl (fun hc200 => ?_) (fun hc200 => ?_)
        · -- if10
          have p201 := of_decide_eq_true hc200
          refine wp_skip ?_
          refine hK198 _ _ ?_
          refine wp_seq_k fun K202 hK202 => ?_
          refine wp_block ?_
          refine wp_seq_k fun K203 hK203 => ?_
          -- law.go:235
          refine wp_region_lit ?_
          refine L (r_mv Hz rfl) Hz rfl ?_
          clear Hz az; intro az Hz
          refine L (r_mv Hz rfl) Hz rfl ?_
          clear Hz az; intro az Hz
          refine L (r_mv Hz rfl) Hz rfl ?_
          clear Hz az; intro az Hz
          have hk204 : k < (q).length := by omega
          have h210 := (SliceOf.kp f2 o196 (fun _ _ h => h) (fun _ _ _ _ h => h))
          obtain ⟨m205, hm206, ok207, hA208⟩ := Row.el KStr h210 hk204
          have E209 : ∀ W, Only NoF w195 W → CA W (eA A2 1 (k)) [strV (m205)] := Row.ce KStr h210 hm206 rfl
          refine L (r_ia (k := k) (size := 1) Tryd.underlying30 Tryd.sizeOf9 Hz rfl rfl rfl hk204 hA208) Hz rfl ?_
          clear Hz az; intro az Hz
          refine L (r_ld Tryd.isAgg9 Hz rfl (CA.first (E209 _ (Only.refl NoF w195)))) Hz rfl ?_
          clear Hz az; intro az Hz
          have G211 := Gr.k hG o196
          refine LC Hz rfl rfl Tryd.call23 (append_o (t := m205) G211 hT1 (fun k hk => Nat.le_trans (Nat.le_trans hG.1 (Nat.le_refl _)) (hgeT1 k (.inl hk))) (by have := hfs.2 _ (List.mem_of_getElem? hm206); omega) (sinv_n hs1 (by omega)).1 (sinv_n hs1 (by omega)).2) rfl ?_
          rintro e w212 ⟨rfl, F213, h214, o215, fm216, fr217⟩; refine ⟨_, rfl, ?_⟩
          have hge218 := ge_next hgeT1 (size_only o196) fm216 fr217
          clear Hz az; intro az Hz
          have hx219 := SInv.append (J := K) hs1 (by omega) (hfs.2 _ (List.mem_of_getElem? hm206))
          refine L (r_as Hz rfl) Hz rfl ?_
          clear Hz az; intro az Hz
          refine hK203 _ _ ?_
          refine wp_seq_k fun K220 hK220 => ?_
          refine wp_seq_k fun K221 hK221 => ?_
          -- law.go:236
          refine wp_region_lit ?_
          refine L (r_mv Hz rfl) Hz rfl ?_
          clear Hz az; intro az Hz
          refine L (r_neI Hz rfl rfl) Hz rfl ?_
          clear Hz az; intro az Hz
          refine L (r_mv Hz rfl) Hz rfl ?_
          clear Hz az; intro az Hz
          refine LG Hz rfl rfl gd_t (fun hb => r_mv Hz rfl) rfl ?_
          clear Hz az; intro az Hz
          refine LG Hz rfl rfl gd_t (fun hb => r_neI Hz (evg hb rfl) rfl) rfl ?_
          clear Hz az; intro az Hz
          refine L (r_and Hz rfl rfl rfl) Hz rfl ?_
          clear Hz az; intro az Hz
          refine hK221 _ _ ?_
          refine br Hz rfl (fun hc222 => ?_) (fun hc222 => ?_)
          · -- if11
            have p223 := of_decide_eq_false (nt_t (and_t hc222).1)
            have p224 := of_decide_eq_false (nt_t (and_t hc222).2)
            exact absurd hc222 (stay_e hx219.2)
          · -- else11
            have d225 := hc222
            refine wp_skip ?_
            refine hK220 _ _ ?_
            refine wp_seq_k fun K226 hK226 => ?_
            -- law.go:239
            refine wp_region_lit ?_
            refine L (r_mv Hz rfl) Hz rfl ?_
            clear Hz az; intro az Hz
            refine L (r_eqI Hz rfl rfl) Hz rfl ?_
            clear Hz az; intro az Hz
            refine hK226 _ _ ?_
            refine br Hz rfl (fun hc227 => ?_) (fun hc227 => ?_)
            · -- if12
              have p228 := of_decide_eq_true hc227
              -- law.go:240
              refine wp_region_lit ?_
              refine L (r_mv Hz rfl) Hz rfl ?_
              clear Hz az; intro az Hz
              refine L (r_mv Hz rfl) Hz rfl ?_
              clear Hz az; intro az Hz
              refine L (r_mv Hz rfl) Hz rfl ?_
              clear Hz az; intro az Hz
              refine L (r_ia (k := k) (size := 1) Tryd.underlying30 Tryd.sizeOf9 Hz rfl rfl rfl hk204 hA208) Hz rfl ?_
              clear Hz az; intro az Hz
              have O229 : Only NoF w w212 := (o_sg o196 o215 (Nat.le_refl _) (fun k h => hgeT1 k (.inl h)))
              have h230 := (SliceOf.kp f2 O229 (fun _ _ h => h) (fun _ _ _ _ h => h))
              have E231 := Row.ce KStr h230 hm206 rfl
              refine L (r_ld Tryd.isAgg9 Hz rfl (CA.first (E231 _ (Only.refl NoF w212)))) Hz rfl ?_
              clear Hz az; intro az Hz
              have hok232 : KStr.ok m205 := by show List.length m205 ≤ maxLen; have := hfs.2 _ (List.mem_of_getElem? hm206); unfold maxLen; omega
              obtain ⟨A233, w234, hw, hA, r235, o236⟩ := Row.made (w := w212) KStr (e := 9) ([m205] : List Str) (by simp only [List.length_cons, List.length_nil]; unfold maxLen; omega)
              refine L (r_bs (z := strV ([])) (size := 1) (vs := [(0, strV (m205))]) (cs := List.flatMap KStr.cells [m205]) Tryd.underlying30 Tryd.sizeOf9 Tryd.zeroValue9 rfl (Fr.evalps Hz rfl) (by kernel_rfl)) Hz rfl ?_
              rw [← hw, ← hA]; clear Hz az; intro az Hz
              clear hw hA
              have ok237 : ∀ zq ∈ ([m205] : List Str), KStr.ok zq := by intro zq hx; simp only [List.mem_cons, List.not_mem_nil, or_false] at hx; rcases hx with rfl <;> first | exact hok232
              have r238 := (ow_k (ow_only rO o215 (fun k hk hF => sW k hk (.inl hF))) o236)
              have h239 := Row.own KStr r235 ok237
              have h240 := SliceOf.pl h239
              have hb248 : (List.length (Wn) + List.length ([m205])) * 16 ≤ 140737488355328 := by (simp only [List.length_cons, List.length_nil]; omega)
              have O249 : Only NoF w w234 := (Only.trans' O229 o236)
              obtain ⟨A241, c242, w243, hr244, r245, o246, al247⟩ := Row.app (P := Tryd.prog) (l := Wn) (l2 := [m205]) KStr elemStr r238 h240 hb248 (by unfold maxLen; omega) (size_only O249)
              refine L (r_app hr244 Hz rfl rfl) Hz rfl ?_
              clear Hz az; intro az Hz
              have ok250 : ∀ zq ∈ (Wn ++ [m205]), KStr.ok zq := (fun x hx => (List.mem_append.1 hx).elim (okW x) ((Row.oks KStr h240) x))
              have h251 := Row.own KStr r245 ok250
              refine L (r_as Hz rfl) Hz rfl ?_
              clear Hz az; intro az Hz
              refine hK202 _ _ ?_
              -- law.go:234
              refine wp_region_lit ?_
              refine L (r_mv Hz rfl) Hz rfl ?_
              clear Hz az; intro az Hz
              have i252 : I64 (((k : Int) + 1)) := by unfold I64; omega
              refine L (r_addI (r := ((k : Int) + 1)) Hz rfl rfl rfl i252) Hz rfl ?_
              clear Hz az; intro az Hz
              refine L (r_as Hz rfl) Hz rfl ?_
              clear Hz az; intro az Hz
              have O253 : Only NoF w w243 := (o_sg O249 o246 (Nat.le_refl _) (ownF_ge rO))
              have sp254 : ∀ k, ownF (.slice Aw (Wn.length) cw) k → ¬ Foot.all F213 k := sep_nexto sW (fun k hk => Nat.lt_of_lt_of_le (ownF_lt rO k hk) (Nat.le_refl _)) fm216 fr217
              have T255 : (JT b30 g180 (Jn.append K E m205).1 (Jn.append K E m205).2.1) w243 F213 := ((jt_good _ _ _ _).only ((jt_good _ _ _ _).only h214 o236 (fun _ _ h => h)) o246 (fun k hk e => sp254 k e hk))
              have sp256 : ∀ k, ownF (.slice A241 (((Wn ++ [m205])).length) c242) k → ¬ Foot.all F213 k := sep_app al247 sp254 (fun k h => Nat.lt_of_lt_of_le ((jt_good _ _ _ _).lt h214 _ h) (size_only o236))
              exact ⟨_, (by omega), k + 1, (Jn.append K E m205).1, (Jn.append K E m205).2.1, _, A241, c242, F213, rfl, Hz.cut ⟨rfl, rfl, rfl, rfl, rfl, rfl, rfl, rfl, trivial⟩, (by omega), hx219.1, (stay_1 hW hx219.2 (of_decide_eq_true hc227)), ok250, O253, (ow_low r245 (Nat.le_refl _)), T255, hge218, sp256⟩
            · -- else12
              have p257 := of_decide_eq_false hc227
              refine wp_skip ?_
              refine hK202 _ _ ?_
              -- law.go:234
              refine wp_region_lit ?_
              refine L (r_mv Hz rfl) Hz rfl ?_
              clear Hz az; intro az Hz
              have i258 : I64 (((k : Int) + 1)) := by unfold I64; omega
              refine L (r_addI (r := ((k : Int) + 1)) Hz rfl rfl rfl i258) Hz rfl ?_
              clear Hz az; intro az Hz
              refine L (r_as Hz rfl) Hz rfl ?_
              clear Hz az; intro az Hz
              have O259 : Only NoF w w212 := (o_sg o196 o215 (Nat.le_refl _) (fun k h => hgeT1 k (.inl h)))
              have r260 := (ow_only rO o215 (fun k hk hF => sW k hk (.inl hF)))
              have sp261 : ∀ k, ownF (.slice Aw (Wn.length) cw) k → ¬ Foot.all F213 k := sep_nexto sW (fun k hk => Nat.lt_of_lt_of_le (ownF_lt rO k hk) (Nat.le_refl _)) fm216 fr217
              exact ⟨_, (by omega), k + 1, (Jn.append K E m205).1, (Jn.append K E m205).2.1, _, Aw, cw, F213, rfl, Hz.cut ⟨rfl, rfl, rfl, rfl, rfl, rfl, rfl, rfl, trivial⟩, (by omega), hx219.1, (stay_2 hW hx219.2 (of_decide_eq_false hc227)), okW, O259, (ow_low r260 (Nat.le_refl _)), h214, hge218, sp261⟩
        · -- else10
          have p262 := of_decide_eq_false hc200
          refine wp_exit ?_
          refine th_exit ?_
          refine th_exit ?_
          refine ib_hit ?_
          refine hK191 _ _ ?_
          refine wp_seq_k fun K263 hK263 => ?_
          refine wp_seq_k fun K264 hK264 => ?_
          -- law.go:243
          refine wp_region_lit ?_
          refine L (r_mv Hz rfl) Hz rfl ?_
          clear Hz az; intro az Hz
          have G265 := Gr.k hG o196
          refine LC Hz rfl rfl Tryd.call24 (sync_o G265 hT1 (fun k hk => Nat.le_trans (Nat.le_trans hG.1 (Nat.le_refl _)) (hgeT1 k (.inl hk)))) rfl ?_
          rintro e w266 ⟨rfl, F267, h268, o269, fm270, fr271⟩; refine ⟨_, rfl, ?_⟩
          have hge272 := ge_next hgeT1 (size_only o196) fm270 fr271
          clear Hz az; intro az Hz
          have hx273 := SInv.sync (J := K) hs1
          refine L (r_neI Hz rfl rfl) Hz rfl ?_
          clear Hz az; intro az Hz
          refine hK264 _ _ ?_
          refine br Hz rfl (fun hc274 => ?_) (fun hc274 => ?_)
          · -- if13
            have p275 := of_decide_eq_false (nt_t hc274)
            refine wp_seq_k fun K276 hK276 => ?_
            -- law.go:244
            refine wp_region_lit ?_
            refine L (r_mv Hz rfl) Hz rfl ?_
            clear Hz az; intro az Hz
            refine L (r_mv Hz rfl) Hz rfl ?_
            clear Hz az; intro az Hz
            refine LT Hz rfl rfl (r_mv Hz rfl) rfl ?_
            clear Hz az; intro az Hz
            have okl282 := okB (BothT.l (X := JB b30 g180 ((Jn.sync K E).2.1)) h268)
            refine LCT Hz rfl rfl rfl rfl Tryd.call10 (all_b (BothT.l (X := JB b30 g180 ((Jn.sync K E).2.1)) h268) (by rw [hx273.2.1, hW]; omega)) rfl ?_
            rintro e w277 ⟨A278, c279, rfl, r280, o281⟩; refine ⟨_, rfl, ?_⟩
            clear Hz az; intro az Hz
            refine LT Hz rfl rfl (r_mv Hz rfl) rfl ?_
            clear Hz az; intro az Hz
            have h283 := SliceOf.pl (Row.own KStr r280 okl282)
            have r285 := (ow_k (ow_only rO o269 (fun k hk hF => sW k hk (.inl hF))) o281)
            have h284 := SliceOf.pl (Row.own KStr r285 okW)
            refine LGV (v := .bool (true)) Hz rfl rfl gd_t rfl (fun hb => rfl) Tryd.call20 (fun hb => fix_eq (congrArg Value.bool (decide_eq_true (hx273.2.1.trans hW))) (SameTexts_v h283 h284)) rfl fun w286 o287 => ?_
            clear Hz az; intro az Hz
            refine L (r_pick Hz rfl rfl rfl) Hz rfl ?_
            clear Hz az; intro az Hz
            refine L (r_as Hz rfl) Hz rfl ?_
            clear Hz az; intro az Hz
            refine hK276 _ _ ?_
            refine wp_ret ?_
            show bodyPost _ _ _ .ret _ _
            refine ret_of (vs := [.bool (true)]) Hz Tryd.results4 ⟨rfl, trivial⟩ ?_
            have O288 : Only NoF w w286 := (Only.trans' (Only.trans' (o_sg o196 o269 (Nat.le_refl _) (fun k h => hgeT1 k (.inl h))) o281) o287)
            exact ⟨rfl, O288⟩
          · -- else13
            have p289 := of_decide_eq_true (nt_f hc274)
            refine wp_skip ?_
            refine hK263 _ _ ?_
            refine wp_seq_k fun K290 hK290 => ?_
            -- law.go:246
            refine wp_region_lit ?_
            refine L (r_mv Hz rfl) Hz rfl ?_
            clear Hz az; intro az Hz
            refine LC Hz rfl rfl Tryd.call25 (lose_o (n := 0) (show JO b30 ((Jn.sync K E).1) (some (g180, (Jn.sync K E).2.1)) w266 F267 from h268) (by unfold I64; omega)) rfl ?_
            rintro e w291 ⟨rfl, F292, h293, o294, fm295, fr296⟩; refine ⟨_, rfl, ?_⟩
            have O297 : Only NoF w w266 := (o_sg o196 o269 (Nat.le_refl _) (fun k h => hgeT1 k (.inl h)))
            have hge298 := ge_next hge272 (size_only O297) fm295 fr296
            clear Hz az; intro az Hz
            refine hK290 _ _ ?_
            refine wp_seq_k fun K299 hK299 => ?_
            refine wp_seq_k fun K300 hK300 => ?_
            -- law.go:247
            refine wp_region_lit ?_
            refine L (r_as Hz rfl) Hz rfl ?_
            clear Hz az; intro az Hz
            refine hK300 _ _ ?_
            refine wp_block ?_
            have hkept := Kept.of hs1 (of_decide_eq_true (nt_f hc274))
            rw [hW] at hkept
            refine wp_loop_m (fun mz az W => ∃ m : Nat, ∃ E2 : Dsk, ∃ K2 : Jn, ∃ g2 : Nat, ∃ F2 : Foot, mz = 2 - m ∧ Fr 181 [(2, .slice A3 (o1.length) c3), (3, .slice A4 (o2.length) c4), (9, .bool (true)), (10, .pointer (some ⟨b30, 0, none⟩)), (14, .slice Aw (Wn.length) cw), (17, .int .i64 ((m : Int))), (11, .pointer (some ⟨g2, 0, none⟩)), (14, .slice Aw (Wn.length) cw)] az ∧ (m ≤ 2) ∧ (Kept E2 Wn) ∧ (K2.l = Wn) ∧ Only NoF w W ∧ W.ownsRow w.heap.size 9 1 (.slice Aw (Wn).length cw) (Wn).length (List.flatMap KStr.cells Wn) ∧ JT b30 g2 E2 K2 W F2 ∧ (∀ k, F2.all k → w.heap.size ≤ k) ∧ (∀ k, ownF (.slice Aw (Wn).length cw) k → ¬ F2.all k)) ?_ ?_
            · -- start
              have O301 : Only NoF w w291 := (o_sg O297 o294 (Nat.le_refl _) (fun k h => hge272 k (.inl h)))
              have sp302 : ∀ k, ownF (.slice Aw (Wn.length) cw) k → ¬ Foot.all F267 k := sep_nexto sW (fun k hk => Nat.lt_of_lt_of_le (ownF_lt rO k hk) (Nat.le_refl _)) fm270 fr271
              have r303 := (ow_only (ow_only rO o269 (fun k hk hF => sW k hk (.inl hF))) o294 (fun k hk hF => sp302 k hk (.inl hF)))
              have O305 := (Only.trans (Only.refl (fun _ => True) w195) o269 (fun _ _ => .inl trivial))
              have sp304 : ∀ k, ownF (.slice Aw (Wn.length) cw) k → ¬ Foot.all F292 k := sep_nexto sp302 (fun k hk => Nat.lt_of_lt_of_le (ownF_lt rO k hk) (size_only O305)) fm295 fr296
              exact ⟨_, 0, (Dsk.lose ((Jn.sync K E).1) 0), (Jn.sync K E).2.1, g180, F292, rfl, Hz.cut ⟨rfl, rfl, rfl, rfl, rfl, rfl, rfl, rfl, trivial⟩, (by omega), hkept, (hx273.2.1.trans hW), O301, (ow_low r303 (Nat.le_refl _)), h293, hge298, sp304⟩
            clear Hz az
            rintro mz az w306 ⟨m, E2, K2, g2, F2, hm308, Hz, hmm, hK, hW2, o307, rO2, hT2, hgeT2, sW2⟩
            refine wp_seq_k fun K309 hK309 => ?_
            refine wp_seq_k fun K310 hK310 => ?_
            -- law.go:247
            refine wp_region_lit ?_
            refine L (r_mv Hz rfl) Hz rfl ?_
            clear Hz az; intro az Hz
            refine L (r_ltI Hz rfl rfl) Hz rfl ?_
            clear Hz az; intro az Hz
            refine hK310 _ _ ?_
            refine br Hz rfl (fun hc311 => ?_) (fun hc311 => ?_)
            · -- if14
              have p312 := of_decide_eq_true hc311
              refine wp_skip ?_
              refine hK309 _ _ ?_
              refine wp_seq_k fun K313 hK313 => ?_
              refine wp_block ?_
              refine wp_seq_k fun K314 hK314 => ?_
              refine wp_seq_k fun K315 hK315 => ?_
              -- law.go:248
              refine wp_region_lit ?_
              refine L (r_mv Hz rfl) Hz rfl ?_
              clear Hz az; intro az Hz
              have okl321 := okB (BothT.l (X := JB b30 g2 K2) hT2)
              refine LC Hz rfl rfl Tryd.call10 (all_b (BothT.l (X := JB b30 g2 K2) hT2) (by rw [hW2]; omega)) rfl ?_
              rintro e w316 ⟨A317, c318, rfl, r319, o320⟩; refine ⟨_, rfl, ?_⟩
              clear Hz az; intro az Hz
              refine L (r_mv Hz rfl) Hz rfl ?_
              clear Hz az; intro az Hz
              have h322 := SliceOf.pl (Row.own KStr r319 okl321)
              have r324 := (ow_k rO2 o320)
              have h323 := SliceOf.pl (Row.own KStr r324 okW)
              refine LCV (v := .bool (true)) Hz rfl rfl Tryd.call20 (fix_eq (congrArg Value.bool (decide_eq_true hW2)) (SameTexts_v h322 h323)) rfl fun w325 o326 => ?_
              clear Hz az; intro az Hz
              refine L (r_not Hz rfl) Hz rfl ?_
              clear Hz az; intro az Hz
              refine hK315 _ _ ?_
              refine br_false Hz rfl ?_
              refine wp_skip ?_
              refine hK314 _ _ ?_
              refine wp_seq_k fun K327 hK327 => ?_
              refine wp_seq_k fun K328 hK328 => ?_
              -- law.go:251
              refine wp_region_lit ?_
              refine L (r_mv Hz rfl) Hz rfl ?_
              clear Hz az; intro az Hz
              refine L (r_eqI Hz rfl rfl) Hz rfl ?_
              clear Hz az; intro az Hz
              refine hK328 _ _ ?_
              refine br Hz rfl (fun hc329 => ?_) (fun hc329 => ?_)
              · -- if16
                have p330 := of_decide_eq_true hc329
                -- law.go:252
                refine wp_region_lit ?_
                refine L (r_mv Hz rfl) Hz rfl ?_
                clear Hz az; intro az Hz
                refine L (r_mv Hz rfl) Hz rfl ?_
                clear Hz az; intro az Hz
                have O331 : Only NoF w306 w325 := (Only.trans' o320 o326)
                have T332 : (JT b30 g2 E2 K2) w325 F2 := ((jt_good _ _ _ _).only hT2 O331 (fun _ _ h => h))
                have O333 : Only NoF w w325 := (Only.trans' (Only.trans' o307 o320) o326)
                refine LC Hz rfl rfl Tryd.call26 (crash_o (show JO b30 E2 (some (g2, K2)) w325 F2 from T332) f3 O333 (by omega) (fun k hk => Nat.le_trans (Nat.le_refl _) (hgeT2 k (.inl hk)))) rfl ?_
                rintro e w334 ⟨rfl, F335, h336, o337, fm338, fr339⟩; refine ⟨_, rfl, ?_⟩
                have hge340 := ge_next hgeT2 (size_only O333) fm338 fr339
                clear Hz az; intro az Hz
                refine hK327 _ _ ?_
                refine wp_seq_k fun K341 hK341 => ?_
                -- law.go:256
                refine wp_region_lit ?_
                refine L (r_mv Hz rfl) Hz rfl ?_
                clear Hz az; intro az Hz
                refine LC Hz rfl rfl Tryd.call27 (start_o (show JO b30 (Dsk.crash E2 o1) (some (g2, K2)) w334 F335 from h336)) rfl ?_
                rintro e w342 ⟨rfl, F343, h344, o345, fm346, fr347⟩; refine ⟨_, rfl, ?_⟩
                have O348 : Only NoF w w334 := (o_sg O333 o337 (Nat.le_refl _) (fun k h => hgeT2 k (.inl h)))
                have hge349 := ge_next hge340 (size_only O348) fm346 fr347
                clear Hz az; intro az Hz
                refine hK341 _ _ ?_
                refine wp_seq_k fun K350 hK350 => ?_
                -- law.go:257
                refine wp_region_lit ?_
                refine L (r_as Hz rfl) Hz rfl ?_
                clear Hz az; intro az Hz
                refine hK350 _ _ ?_
                refine wp_seq_k fun K351 hK351 => ?_
                -- law.go:258
                refine wp_region_lit ?_
                refine L (r_mv Hz rfl) Hz rfl ?_
                clear Hz az; intro az Hz
                obtain ⟨D352, hop353, hkp354⟩ := Kept.round hK o1
                have O363 : Only NoF w w342 := (o_sg O348 o345 (Nat.le_refl _) (fun k h => hge340 k (.inl h)))
                have G362 := Gr.k hG O363
                refine LC Hz rfl rfl Tryd.call9 (open_j G362 h344 (fun k hk => Nat.le_trans (Nat.le_trans hG.1 (Nat.le_refl _)) (hge349 k (.inl hk))) hop353) rfl ?_
                rintro e w356 ⟨g355, rfl, F357, h358, o359, fm360, fr361⟩; refine ⟨_, rfl, ?_⟩
                have hge364 := ge_next hge349 (size_only O363) fm360 fr361
                clear Hz az; intro az Hz
                refine L (r_mv Hz rfl) Hz rfl ?_
                clear Hz az; intro az Hz
                refine L (r_ex Hz rfl rfl) Hz rfl ?_
                clear Hz az; intro az Hz
                refine L (r_ex Hz rfl rfl) Hz rfl ?_
                clear Hz az; intro az Hz
                refine L (r_as Hz rfl) Hz rfl ?_
                clear Hz az; intro az Hz
                refine L (r_as Hz rfl) Hz rfl ?_
                clear Hz az; intro az Hz
                refine hK351 _ _ ?_
                refine wp_seq_k fun K365 hK365 => ?_
                -- law.go:259
                refine wp_region_lit ?_
                refine L (r_mv Hz rfl) Hz rfl ?_
                clear Hz az; intro az Hz
                refine L (r_eqP Tryd.underlying27 Hz rfl rfl) Hz rfl ?_
                clear Hz az; intro az Hz
                refine L (r_mv Hz rfl) Hz rfl ?_
                clear Hz az; intro az Hz
                refine LT Hz rfl rfl (r_mv Hz rfl) rfl ?_
                clear Hz az; intro az Hz
                refine LT Hz rfl rfl (r_neRI Hz rfl rfl) rfl ?_
                clear Hz az; intro az Hz
                refine L (r_pick Hz rfl rfl rfl) Hz rfl ?_
                clear Hz az; intro az Hz
                refine hK365 _ _ ?_
                refine br_false Hz rfl ?_
                refine wp_skip ?_
                refine hK313 _ _ ?_
                -- law.go:247
                refine wp_region_lit ?_
                refine L (r_mv Hz rfl) Hz rfl ?_
                clear Hz az; intro az Hz
                have i366 : I64 (((m : Int) + 1)) := by unfold I64; omega
                refine L (r_addI (r := ((m : Int) + 1)) Hz rfl rfl rfl i366) Hz rfl ?_
                clear Hz az; intro az Hz
                refine L (r_as Hz rfl) Hz rfl ?_
                clear Hz az; intro az Hz
                have O367 : Only NoF w w356 := (o_sg O363 o359 (Nat.le_refl _) (fun k h => hge349 k (.inl h)))
                have sp368 : ∀ k, ownF (.slice Aw (Wn.length) cw) k → ¬ Foot.all F335 k := sep_nexto sW2 (fun k hk => Nat.lt_of_lt_of_le (ownF_lt rO2 k hk) (size_only O331)) fm338 fr339
                have O370 := (Only.trans (Only.trans (Only.trans (Only.refl (fun _ => True) w306) o320 (fun _ _ => .inl trivial)) o326 (fun _ _ => .inl trivial)) o337 (fun _ _ => .inl trivial))
                have sp369 : ∀ k, ownF (.slice Aw (Wn.length) cw) k → ¬ Foot.all F343 k := sep_nexto sp368 (fun k hk => Nat.lt_of_lt_of_le (ownF_lt rO2 k hk) (size_only O370)) fm346 fr347
                have r371 := (ow_only (ow_only (ow_only (ow_k r324 o326) o337 (fun k hk hF => sW2 k hk (.inl hF))) o345 (fun k hk hF => sp368 k hk (.inl hF))) o359 (fun k hk hF => sp369 k hk (.inl hF)))
                have O373 := (Only.trans (Only.trans (Only.trans (Only.trans (Only.refl (fun _ => True) w306) o320 (fun _ _ => .inl trivial)) o326 (fun _ _ => .inl trivial)) o337 (fun _ _ => .inl trivial)) o345 (fun _ _ => .inl trivial))
                have sp372 : ∀ k, ownF (.slice Aw (Wn.length) cw) k → ¬ Foot.all F357 k := sep_nexto sp369 (fun k hk => Nat.lt_of_lt_of_le (ownF_lt rO2 k hk) (size_only O373)) fm360 fr361
                exact ⟨_, (by omega), m + 1, D352, (⟨0, Wn, (forms Wn).length, false⟩ : Jn), g355, F357, rfl, Hz.cut ⟨rfl, rfl, rfl, rfl, rfl, rfl, rfl, rfl, trivial⟩, (by omega), hkp354, rfl, O367, (ow_low r371 (Nat.le_refl _)), h358, hge364, sp372⟩
              · -- else16
                have p374 := of_decide_eq_false hc329
                -- law.go:254
                refine wp_region_lit ?_
                refine L (r_mv Hz rfl) Hz rfl ?_
                clear Hz az; intro az Hz
                refine L (r_mv Hz rfl) Hz rfl ?_
                clear Hz az; intro az Hz
                have O375 : Only NoF w306 w325 := (Only.trans' o320 o326)
                have T376 : (JT b30 g2 E2 K2) w325 F2 := ((jt_good _ _ _ _).only hT2 O375 (fun _ _ h => h))
                have O377 : Only NoF w w325 := (Only.trans' (Only.trans' o307 o320) o326)
                refine LC Hz rfl rfl Tryd.call26 (crash_o (show JO b30 E2 (some (g2, K2)) w325 F2 from T376) f4 O377 (by omega) (fun k hk => Nat.le_trans (Nat.le_refl _) (hgeT2 k (.inl hk)))) rfl ?_
                rintro e w378 ⟨rfl, F379, h380, o381, fm382, fr383⟩; refine ⟨_, rfl, ?_⟩
                have hge384 := ge_next hgeT2 (size_only O377) fm382 fr383
                clear Hz az; intro az Hz
                refine hK327 _ _ ?_
                refine wp_seq_k fun K385 hK385 => ?_
                -- law.go:256
                refine wp_region_lit ?_
                refine L (r_mv Hz rfl) Hz rfl ?_
                clear Hz az; intro az Hz
                refine LC Hz rfl rfl Tryd.call27 (start_o (show JO b30 (Dsk.crash E2 o2) (some (g2, K2)) w378 F379 from h380)) rfl ?_
                rintro e w386 ⟨rfl, F387, h388, o389, fm390, fr391⟩; refine ⟨_, rfl, ?_⟩
                have O392 : Only NoF w w378 := (o_sg O377 o381 (Nat.le_refl _) (fun k h => hgeT2 k (.inl h)))
                have hge393 := ge_next hge384 (size_only O392) fm390 fr391
                clear Hz az; intro az Hz
                refine hK385 _ _ ?_
                refine wp_seq_k fun K394 hK394 => ?_
                -- law.go:257
                refine wp_region_lit ?_
                refine L (r_as Hz rfl) Hz rfl ?_
                clear Hz az; intro az Hz
                refine hK394 _ _ ?_
                refine wp_seq_k fun K395 hK395 => ?_
                -- law.go:258
                refine wp_region_lit ?_
                refine L (r_mv Hz rfl) Hz rfl ?_
                clear Hz az; intro az Hz
                obtain ⟨D396, hop397, hkp398⟩ := Kept.round hK o2
                have O407 : Only NoF w w386 := (o_sg O392 o389 (Nat.le_refl _) (fun k h => hge384 k (.inl h)))
                have G406 := Gr.k hG O407
                refine LC Hz rfl rfl Tryd.call9 (open_j G406 h388 (fun k hk => Nat.le_trans (Nat.le_trans hG.1 (Nat.le_refl _)) (hge393 k (.inl hk))) hop397) rfl ?_
                rintro e w400 ⟨g399, rfl, F401, h402, o403, fm404, fr405⟩; refine ⟨_, rfl, ?_⟩
                have hge408 := ge_next hge393 (size_only O407) fm404 fr405
                clear Hz az; intro az Hz
                refine L (r_mv Hz rfl) Hz rfl ?_
                clear Hz az; intro az Hz
                refine L (r_ex Hz rfl rfl) Hz rfl ?_
                clear Hz az; intro az Hz
                refine L (r_ex Hz rfl rfl) Hz rfl ?_
                clear Hz az; intro az Hz
                refine L (r_as Hz rfl) Hz rfl ?_
                clear Hz az; intro az Hz
                refine L (r_as Hz rfl) Hz rfl ?_
                clear Hz az; intro az Hz
                refine hK395 _ _ ?_
                refine wp_seq_k fun K409 hK409 => ?_
                -- law.go:259
                refine wp_region_lit ?_
                refine L (r_mv Hz rfl) Hz rfl ?_
                clear Hz az; intro az Hz
                refine L (r_eqP Tryd.underlying27 Hz rfl rfl) Hz rfl ?_
                clear Hz az; intro az Hz
                refine L (r_mv Hz rfl) Hz rfl ?_
                clear Hz az; intro az Hz
                refine LT Hz rfl rfl (r_mv Hz rfl) rfl ?_
                clear Hz az; intro az Hz
                refine LT Hz rfl rfl (r_neRI Hz rfl rfl) rfl ?_
                clear Hz az; intro az Hz
                refine L (r_pick Hz rfl rfl rfl) Hz rfl ?_
                clear Hz az; intro az Hz
                refine hK409 _ _ ?_
                refine br_false Hz rfl ?_
                refine wp_skip ?_
                refine hK313 _ _ ?_
                -- law.go:247
                refine wp_region_lit ?_
                refine L (r_mv Hz rfl) Hz rfl ?_
                clear Hz az; intro az Hz
                have i410 : I64 (((m : Int) + 1)) := by unfold I64; omega
                refine L (r_addI (r := ((m : Int) + 1)) Hz rfl rfl rfl i410) Hz rfl ?_
                clear Hz az; intro az Hz
                refine L (r_as Hz rfl) Hz rfl ?_
                clear Hz az; intro az Hz
                have O411 : Only NoF w w400 := (o_sg O407 o403 (Nat.le_refl _) (fun k h => hge393 k (.inl h)))
                have sp412 : ∀ k, ownF (.slice Aw (Wn.length) cw) k → ¬ Foot.all F379 k := sep_nexto sW2 (fun k hk => Nat.lt_of_lt_of_le (ownF_lt rO2 k hk) (size_only O375)) fm382 fr383
                have O414 := (Only.trans (Only.trans (Only.trans (Only.refl (fun _ => True) w306) o320 (fun _ _ => .inl trivial)) o326 (fun _ _ => .inl trivial)) o381 (fun _ _ => .inl trivial))
                have sp413 : ∀ k, ownF (.slice Aw (Wn.length) cw) k → ¬ Foot.all F387 k := sep_nexto sp412 (fun k hk => Nat.lt_of_lt_of_le (ownF_lt rO2 k hk) (size_only O414)) fm390 fr391
                have r415 := (ow_only (ow_only (ow_only (ow_k r324 o326) o381 (fun k hk hF => sW2 k hk (.inl hF))) o389 (fun k hk hF => sp412 k hk (.inl hF))) o403 (fun k hk hF => sp413 k hk (.inl hF)))
                have O417 := (Only.trans (Only.trans (Only.trans (Only.trans (Only.refl (fun _ => True) w306) o320 (fun _ _ => .inl trivial)) o326 (fun _ _ => .inl trivial)) o381 (fun _ _ => .inl trivial)) o389 (fun _ _ => .inl trivial))
                have sp416 : ∀ k, ownF (.slice Aw (Wn.length) cw) k → ¬ Foot.all F401 k := sep_nexto sp413 (fun k hk => Nat.lt_of_lt_of_le (ownF_lt rO2 k hk) (size_only O417)) fm404 fr405
                exact ⟨_, (by omega), m + 1, D396, (⟨0, Wn, (forms Wn).length, false⟩ : Jn), g399, F401, rfl, Hz.cut ⟨rfl, rfl, rfl, rfl, rfl, rfl, rfl, rfl, trivial⟩, (by omega), hkp398, rfl, O411, (ow_low r415 (Nat.le_refl _)), h402, hge408, sp416⟩
            · -- else14
              have p418 := of_decide_eq_false hc311
              refine wp_exit ?_
              refine th_exit ?_
              refine th_exit ?_
              refine ib_hit ?_
              refine hK299 _ _ ?_
              refine wp_seq_k fun K419 hK419 => ?_
              -- law.go:263
              refine wp_region_lit ?_
              refine L (r_mv Hz rfl) Hz rfl ?_
              clear Hz az; intro az Hz
              refine L (r_mv Hz rfl) Hz rfl ?_
              clear Hz az; intro az Hz
              refine LT Hz rfl rfl (r_mv Hz rfl) rfl ?_
              clear Hz az; intro az Hz
              have okl425 := okB (BothT.l (X := JB b30 g2 K2) hT2)
              refine LCT Hz rfl rfl rfl rfl Tryd.call10 (all_b (BothT.l (X := JB b30 g2 K2) hT2) (by rw [hW2]; omega)) rfl ?_
              rintro e w420 ⟨A421, c422, rfl, r423, o424⟩; refine ⟨_, rfl, ?_⟩
              clear Hz az; intro az Hz
              refine LT Hz rfl rfl (r_mv Hz rfl) rfl ?_
              clear Hz az; intro az Hz
              have h426 := SliceOf.pl (Row.own KStr r423 okl425)
              have r428 := (ow_k rO2 o424)
              have h427 := SliceOf.pl (Row.own KStr r428 okW)
              refine LGV (v := .bool (true)) Hz rfl rfl gd_t rfl (fun hb => rfl) Tryd.call20 (fun hb => fix_eq (congrArg Value.bool (decide_eq_true hW2)) (SameTexts_v h426 h427)) rfl fun w429 o430 => ?_
              clear Hz az; intro az Hz
              refine L (r_pick Hz rfl rfl rfl) Hz rfl ?_
              clear Hz az; intro az Hz
              refine L (r_as Hz rfl) Hz rfl ?_
              clear Hz az; intro az Hz
              refine hK419 _ _ ?_
              refine wp_ret ?_
              show bodyPost _ _ _ .ret _ _
              refine ret_of (vs := [.bool (true)]) Hz Tryd.results4 ⟨rfl, trivial⟩ ?_
              have O431 : Only NoF w w429 := (Only.trans' (Only.trans' o307 o424) o430)
              exact ⟨rfl, O431⟩

theorem stays_v {w : World} (hG : Gr w) {v v2 v3 v4 : Value} {l : List OpM} (f1 : OpsV w w v l) {q : List Str} (f2 : StrsV w v2 q) {o1 o2 : List Int} (f3 : IntsV w v3 o1) (f4 : IntsV w v4 o2) : Calls Tryd.prog 4 #[v, v2, v3, v4] w (Fix (.bool true) w) := by
  obtain ⟨A1, c1, rfl, _⟩ := SliceOf.shape f1
  obtain ⟨A2, c2, rfl, _⟩ := SliceOf.shape f2
  obtain ⟨A3, c3, rfl, _⟩ := SliceOf.shape f3
  obtain ⟨A4, c4, rfl, _⟩ := SliceOf.shape f4
  exact stays_v_ hG f1 f2 f3 f4
end Go.Proofs.YtlnadcihnfppaaaDoor
