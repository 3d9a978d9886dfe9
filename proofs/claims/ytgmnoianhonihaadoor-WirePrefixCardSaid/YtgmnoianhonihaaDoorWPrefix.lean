/-
  WirePrefix, walked: it returns true. No condition but the listed variables.
-/
import Derived.Test.YtgmnoianhonihaaDoorWW7
namespace Go.Proofs.YtgmnoianhonihaaDoor
set_option linter.unusedVariables false
set_option linter.unusedSimpArgs false
set_option linter.unusedSectionVars false
open Go.RowKit

theorem prefix_same {m m2 : VM} (h : OkM m) (h' : OkM m2) (hk : Wr.kind m.k = Wr.kind m2.k) {b : Bool} (hc : (b || (!decide ((wrE m2).take (min (wrE m).length (wrE m2).length) = wrE m))) = false) : wrE m = wrE m2 ∧ eqV m2 ⟨wrE m, false⟩ = (true, ⟨[], false⟩) := by
  have h1 := of_decide_eq_true (nt_f (or_f hc).2)
  have e : wrE m2 = wrE m ++ (wrE m2).drop (min (wrE m).length (wrE m2).length) := by
    conv => lhs; rw [← List.take_append_drop (min (wrE m).length (wrE m2).length) (wrE m2), h1]
  have hx := wr_prefix h h' hk e
  rw [hx, List.append_nil] at e
  refine ⟨e.symm, ?_⟩
  have := read_wr h' []
  rwa [List.append_nil, e] at this
section
variable {P : Program} {ops : Array Oper} {Q : Exit → Act → World → Prop} {a : Act} {w w1 : World} {n : Nat} {l : List (Nat × Value)} {d : Nat} {ty : TypeId} {pos : String} {aft : Array Edge} {xs : List Operand} {ats : Array TypeId} {f : FuncId} {vs : List Value} {fo : Operand} {j dj : Nat} {want c : Bool} {u : Value} {T : List Nat} {k i : Nat} {r : Plan} {F : Nat → Prop} {m : Nat}
theorem Pl.MSE {S : Prop} (H : Fr n l a) (ho : ops[i]? = some ⟨some d, .call { callee := .value fo, args := xs.toArray, argTypes := ats }, ty, pos, aft, none⟩) (hfo : ev l fo = some (.func (.func f) #[] #[])) (hv : evs l xs = some vs)
    (hf : ∀ args w, (callFunc f args).run P w = .ok (.enter f args) w) (hc : Calls P f vs.toArray w (Tells S w)) (hd : Nat.blt d n = true) (hw : ∀ w', Only NoF w w' → SK F m w1 (k + 1) w')
    (h : ∀ b w', (b = true → S) → Only NoF w w' → ∀ a', Fr n ((d, .bool b) :: l) a' → wpPl P ops Q (SK F m w1) T (k + 1) r a' w') : wpPl P ops Q (SK F m w1) T k (.ex i r) a w :=
  Pl.MSC H ho hfo hv hf hc hd fun _ _ ⟨b, h1, h2, h3⟩ => ⟨_, h1, hw _ h3, h b _ h2 h3⟩
theorem Pl.MSGE {S : Prop} (H : Fr n l a) (hj : (ops[j]?).bind (·.dst) = some dj) (hb : look l dj = some u) (hgc : Gd u want c) (ho : ops[i]? = some ⟨some d, .call { callee := .value fo, args := xs.toArray, argTypes := ats }, ty, pos, aft, some (j, want)⟩) (hfo : ev l fo = some (.func (.func f) #[] #[]))
    (hv : c = true → evs l xs = some vs) (hf : ∀ args w, (callFunc f args).run P w = .ok (.enter f args) w) (hc : c = true → Calls P f vs.toArray w (Tells S w)) (hd : Nat.blt d n = true) (hw : ∀ w', Only NoF w w' → SK F m w1 (k + 1) w')
    (h : ∀ b w', (c = true → b = true → S) → Only NoF w w' → ∀ a', Fr n ((d, gv c (.bool b)) :: l) a' → wpPl P ops Q (SK F m w1) T (k + 1) r a' w') : wpPl P ops Q (SK F m w1) T k (.ex i r) a w :=
  Pl.MSGC (fun v' w' => ∃ b, v' = gv c (.bool b) ∧ (c = true → b = true → S) ∧ Only NoF w w') H hj hb hgc ho hfo hv hf (fun h => (hc h).mono fun _ _ ⟨b, h1, h2, h3⟩ => ⟨_, h1, b, by rw [gv, if_pos h], fun _ => h2, h3⟩)
    (fun h => ⟨true, (by rw [gv, if_neg (by simp [h])]), (fun h' => by rw [h] at h'; cases h'), Only.refl _ _⟩) hd fun v' w' ⟨b, h1, h2, h3⟩ => by subst h1; exact ⟨hw _ h3, h _ _ h2 h3⟩
theorem Pl.MXF {op : Op} (H : Fr n l a) (hj : (ops[j]?).bind (·.dst) = some dj) (hb : look l dj = some u) (hn : Gd u want false)
    (ho : ops[i]? = some ⟨some d, op, ty, pos, aft, some (j, want)⟩) (hd : Nat.blt d n = true) (hS : SK F m w1 (k + 1) w)
    (h : ∀ a', Fr n ((d, undef) :: l) a' → wpPl P ops Q (SK F m w1) T (k + 1) r a' w) : wpPl P ops Q (SK F m w1) T k (.ex i r) a w := by
  have hw := wanted_eq (op := op) (ty := ty) (pos := pos) (aft := aft) (d := d) (want := want) H hj hb hn
  simp only [wpPl, wpOp, ho]
  rw [hw]
  exact ⟨hS, h _ (H.puts hd _)⟩
end
theorem r_eqSt {P : Program} {w : World} {n : Nat} {l : List (Nat × Value)} {a : Act} {dst : Option Tmp} {ty : TypeId} {pos : String} {aft : Array Edge} {g : Option (Nat × Bool)} {x y : Operand} {t yt : TypeId} {s s' : Str} (he : s = s') (H : Fr n l a) (hx : ev l x = some (strV s)) (hy : ev l y = some (strV s')) :
    (execOp a.eval ⟨dst, .binOp .eql t x y yt, ty, pos, aft, g⟩).run P w = .ok (.value (.bool true)) w := by
  have := r_eqS (P := P) (w := w) (dst := dst) (ty := ty) (pos := pos) (aft := aft) (g := g) (t := t) (yt := yt) H hx hy
  rwa [decide_eq_true he] at this
set_option maxRecDepth 20000 in
set_option maxHeartbeats 4000000 in
theorem prefix_v {w : World} (hG : Gr w) {m m2 : VM} (hk1 : (KVal w).ok m) (hk2 : (KVal w).ok m2) : Calls Tryd.prog 5 [.agg #[.int .i64 m.k, .int .i64 m.n, strV m.s, .slice m.A m.l.length m.c, .slice m.B m.t.length m.d], .agg #[.int .i64 m2.k, .int .i64 m2.n, strV m2.s, .slice m2.A m2.l.length m2.c, .slice m2.B m2.t.length m2.d]].toArray w (Fix (.bool true) w) := by
  have hok1 := okM hk1
  have hok2 := okM hk2
  obtain ⟨_, _, _, h1, h2⟩ := id hk1
  obtain ⟨_, _, _, h3, h4⟩ := id hk2
  refine calls_start Tryd.func5 rfl rfl ?_
  intro az Hz
  rw [Tryd.ntmps5] at Hz
  refine wp_seq_k fun K1 hK1 => ?_
  -- law.go:195
  refine wp_region_lit ?_
  refine LBox Hz rfl rfl rfl ?_
  clear Hz az; intro g2 w3 hg6 hl7 o4 B5 az Hz
  refine LBox Hz rfl rfl rfl ?_
  clear Hz az; intro g8 w9 hg12 hl13 o10 B11 az Hz
  refine L (r_as Hz rfl) Hz rfl ?_
  clear Hz az; intro az Hz
  refine hK1 _ _ ?_
  refine wp_seq_k fun K14 hK14 => ?_
  -- law.go:196
  refine wp_region_lit ?_
  have O16 : Only NoF w w9 := (Only.trans' o4 o10)
  have G15 := Gr.k hG O16
  refine LCV (v := .bool (true)) Hz rfl rfl Tryd.call15 (small_v G15) rfl fun w17 o18 => ?_
  clear Hz az; intro az Hz
  refine L (r_as Hz rfl) Hz rfl ?_
  clear Hz az; intro az Hz
  refine hK14 _ _ ?_
  refine wp_seq_k fun K19 hK19 => ?_
  refine wp_seq_k fun K20 hK20 => ?_
  -- law.go:197
  refine reg_p NoF 6 [1, 2, 6, 7, 12, 14] (.rd 0 (.ex 1 (.ex 2 (.rd 3 (.rd 4 (.rd 5 (.ex 6 (.ex 7 (.rd 8 (.rd 9 (.rd 10 (.rd 11 (.rd 13 (.ex 12 (.ex 14 (.rd 15 (.rd 16 .nil))))))))))))))))) (by kernel_rfl) (by kernel_rfl) (fun _ _ _ _ _ h => h) fun w21 o22 => ?_
  have B23 := (Blk.k (Blk.k (Blk.k B5 o10) o18) o22)
  have B24 := (Blk.k (Blk.k B11 o18) o22)
  refine Pl.MSP (b := true) (by kernel_rfl) (fun W oW => r_ldA Tryd.isAgg25 Tryd.sizeOf25 Hz rfl (Blk.ca (Blk.k B23 oW)) rfl) Hz rfl rfl ?_
  clear Hz az; intro az Hz
  obtain ⟨A25, w26, hw, hA, r27, o28⟩ := Row.made (w := w21) (KVal w) (e := 25) ([m] : List VM) (by simp only [List.length_cons, List.length_nil]; unfold maxLen; omega)
  refine Pl.MD (r_bs (z := .agg #[.int .i64 (0), .int .i64 (0), strV ([]), .slice none (0) 0, .slice none (0) 0]) (size := 5) (vs := [(0, .agg #[.int .i64 (m.k), .int .i64 (m.n), strV (m.s), .slice m.A (m.l.length) m.c, .slice m.B (m.t.length) m.d])]) (cs := List.flatMap (KVal w).cells [m]) Tryd.underlying28 Tryd.sizeOf25 Tryd.zeroValue25 rfl (Fr.evalps Hz rfl) (by kernel_rfl)) Hz rfl rfl ?_ ?_
  · rw [← hw]; exact ⟨fun _ => o28, (Only.trans (Only.refl NoF w21) o28 (fun _ h => h.elim))⟩
  rw [← hw, ← hA]; clear Hz az; intro az Hz
  clear hw hA
  have ok29 : ∀ zq ∈ ([m] : List VM), (KVal w).ok zq := by intro zq hx; simp only [List.mem_cons, List.not_mem_nil, or_false] at hx; rcases hx with rfl <;> first | exact hk1
  have h34 := Row.own (KVal w) r27 ok29
  have h35 := SliceOf.pl h34
  have O36 : Only NoF w w26 := (Only.trans' (Only.trans' (Only.trans' O16 o18) o22) o28)
  refine Pl.MSE Hz rfl rfl rfl Tryd.call16 (few_v (vals_up h35 O36)) rfl (fun w' o' => ⟨fun _ => (Only.trans' o28 o'), (Only.trans (Only.trans (Only.refl NoF w21) o28 (fun _ h => h.elim)) o' (fun _ h => h.elim))⟩) fun b32 w30 hs33 o31 => ?_
  clear Hz az; intro az Hz
  cases b32
  · -- b32 = False
    refine Pl.MSP (b := true) (by kernel_rfl) (fun W oW => r_not Hz rfl) Hz rfl rfl ?_
    clear Hz az; intro az Hz
    refine Pl.MSP (b := true) (by kernel_rfl) (fun W oW => r_mv Hz rfl) Hz rfl rfl ?_
    clear Hz az; intro az Hz
    refine Pl.MSPF Hz rfl rfl (by exact rfl) rfl rfl ?_
    clear Hz az; intro az Hz
    refine Pl.MXF Hz rfl rfl (by exact rfl) rfl rfl ⟨fun _ => (Only.trans' o28 o31), (Only.trans (Only.trans (Only.refl NoF w21) o28 (fun _ h => h.elim)) o31 (fun _ h => h.elim))⟩ ?_
    clear Hz az; intro az Hz
    refine Pl.MXF Hz rfl rfl (by exact rfl) rfl rfl ⟨fun _ => (Only.trans' o28 o31), (Only.trans (Only.trans (Only.refl NoF w21) o28 (fun _ h => h.elim)) o31 (fun _ h => h.elim))⟩ ?_
    clear Hz az; intro az Hz
    refine Pl.MSPF Hz rfl rfl (by exact rfl) rfl rfl ?_
    clear Hz az; intro az Hz
    refine Pl.MSP (b := true) (by kernel_rfl) (fun W oW => r_pick Hz rfl rfl rfl) Hz rfl rfl ?_
    clear Hz az; intro az Hz
    refine Pl.MSP (b := true) (by kernel_rfl) (fun W oW => r_mv Hz rfl) Hz rfl rfl ?_
    clear Hz az; intro az Hz
    refine Pl.MSPF Hz rfl rfl (by exact rfl) rfl rfl ?_
    clear Hz az; intro az Hz
    refine Pl.MSPF Hz rfl rfl (by exact rfl) rfl rfl ?_
    clear Hz az; intro az Hz
    refine Pl.MXF Hz rfl rfl (by exact rfl) rfl rfl ⟨fun _ => (Only.trans' o28 o31), (Only.trans (Only.trans (Only.refl NoF w21) o28 (fun _ h => h.elim)) o31 (fun _ h => h.elim))⟩ ?_
    clear Hz az; intro az Hz
    refine Pl.MXF Hz rfl rfl (by exact rfl) rfl rfl ⟨fun _ => (Only.trans' o28 o31), (Only.trans (Only.trans (Only.refl NoF w21) o28 (fun _ h => h.elim)) o31 (fun _ h => h.elim))⟩ ?_
    clear Hz az; intro az Hz
    refine Pl.MSPF Hz rfl rfl (by exact rfl) rfl rfl ?_
    clear Hz az; intro az Hz
    refine Pl.MSP (b := true) (by kernel_rfl) (fun W oW => r_pick Hz rfl rfl rfl) Hz rfl rfl ?_
    clear Hz az; intro az Hz
    refine wpPl_nil ?_
    refine hK20 _ _ ?_
    refine br_true Hz rfl ?_
    refine wp_seq_k fun K37 hK37 => ?_
    -- law.go:198
    refine wp_region_lit ?_
    refine L (r_mv Hz rfl) Hz rfl ?_
    clear Hz az; intro az Hz
    refine L (r_as Hz rfl) Hz rfl ?_
    clear Hz az; intro az Hz
    refine hK37 _ _ ?_
    refine wp_ret ?_
    show bodyPost _ _ _ .ret _ _
    refine ret_of (vs := [.bool (true)]) Hz Tryd.results5 ⟨rfl, trivial⟩ ?_
    have O38 : Only NoF w w30 := (Only.trans' O36 o31)
    exact ⟨rfl, O38⟩
  · -- b32 = True
    have S1 := hs33 rfl
    refine Pl.MSP (b := true) (by kernel_rfl) (fun W oW => r_not Hz rfl) Hz rfl rfl ?_
    clear Hz az; intro az Hz
    refine Pl.MSP (b := true) (by kernel_rfl) (fun W oW => r_mv Hz rfl) Hz rfl rfl ?_
    clear Hz az; intro az Hz
    refine Pl.MSPT (b := true) (by kernel_rfl) Hz rfl rfl (fun W oW => r_ldA Tryd.isAgg25 Tryd.sizeOf25 Hz rfl (Blk.ca (Blk.k B24 oW)) rfl) rfl rfl ?_
    clear Hz az; intro az Hz
    obtain ⟨A39, w40, hw, hA, r41, o42⟩ := Row.made (w := w30) (KVal w) (e := 25) ([m2] : List VM) (by simp only [List.length_cons, List.length_nil]; unfold maxLen; omega)
    refine Pl.MDT Hz rfl rfl (r_bs (z := .agg #[.int .i64 (0), .int .i64 (0), strV ([]), .slice none (0) 0, .slice none (0) 0]) (size := 5) (vs := [(0, .agg #[.int .i64 (m2.k), .int .i64 (m2.n), strV (m2.s), .slice m2.A (m2.l.length) m2.c, .slice m2.B (m2.t.length) m2.d])]) (cs := List.flatMap (KVal w).cells [m2]) Tryd.underlying28 Tryd.sizeOf25 Tryd.zeroValue25 rfl (Fr.evalps Hz rfl) (by kernel_rfl)) rfl rfl ?_ ?_
    · rw [← hw]; exact ⟨fun _ => (Only.trans' (Only.trans' o28 o31) o42), (Only.trans (Only.trans (Only.trans (Only.refl NoF w21) o28 (fun _ h => h.elim)) o31 (fun _ h => h.elim)) o42 (fun _ h => h.elim))⟩
    rw [← hw, ← hA]; clear Hz az; intro az Hz
    clear hw hA
    have ok43 : ∀ zq ∈ ([m2] : List VM), (KVal w).ok zq := by intro zq hx; simp only [List.mem_cons, List.not_mem_nil, or_false] at hx; rcases hx with rfl <;> first | exact hk2
    have h48 := Row.own (KVal w) r41 ok43
    have h49 := SliceOf.pl h48
    have O50 : Only NoF w w40 := (Only.trans' (Only.trans' O36 o31) o42)
    refine Pl.MSCT Hz rfl rfl rfl rfl rfl Tryd.call16 (few_v (vals_up h49 O50)) rfl ?_
    rintro e w44 ⟨b46, rfl, hs47, o45⟩; refine ⟨_, rfl, ⟨fun _ => (Only.trans' (Only.trans' (Only.trans' o28 o31) o42) o45), (Only.trans (Only.trans (Only.trans (Only.trans (Only.refl NoF w21) o28 (fun _ h => h.elim)) o31 (fun _ h => h.elim)) o42 (fun _ h => h.elim)) o45 (fun _ h => h.elim))⟩, ?_⟩
    clear Hz az; intro az Hz
    cases b46
    · -- b46 = False
      refine Pl.MSPT (b := true) (by kernel_rfl) Hz rfl rfl (fun W oW => r_not Hz rfl) rfl rfl ?_
      clear Hz az; intro az Hz
      refine Pl.MSP (b := true) (by kernel_rfl) (fun W oW => r_pick Hz rfl rfl rfl) Hz rfl rfl ?_
      clear Hz az; intro az Hz
      refine Pl.MSP (b := true) (by kernel_rfl) (fun W oW => r_mv Hz rfl) Hz rfl rfl ?_
      clear Hz az; intro az Hz
      refine Pl.MSPF Hz rfl rfl (by exact rfl) rfl rfl ?_
      clear Hz az; intro az Hz
      refine Pl.MSPF Hz rfl rfl (by exact rfl) rfl rfl ?_
      clear Hz az; intro az Hz
      refine Pl.MXF Hz rfl rfl (by exact rfl) rfl rfl ⟨fun _ => (Only.trans' (Only.trans' (Only.trans' o28 o31) o42) o45), (Only.trans (Only.trans (Only.trans (Only.trans (Only.refl NoF w21) o28 (fun _ h => h.elim)) o31 (fun _ h => h.elim)) o42 (fun _ h => h.elim)) o45 (fun _ h => h.elim))⟩ ?_
      clear Hz az; intro az Hz
      refine Pl.MXF Hz rfl rfl (by exact rfl) rfl rfl ⟨fun _ => (Only.trans' (Only.trans' (Only.trans' o28 o31) o42) o45), (Only.trans (Only.trans (Only.trans (Only.trans (Only.refl NoF w21) o28 (fun _ h => h.elim)) o31 (fun _ h => h.elim)) o42 (fun _ h => h.elim)) o45 (fun _ h => h.elim))⟩ ?_
      clear Hz az; intro az Hz
      refine Pl.MSPF Hz rfl rfl (by exact rfl) rfl rfl ?_
      clear Hz az; intro az Hz
      refine Pl.MSP (b := true) (by kernel_rfl) (fun W oW => r_pick Hz rfl rfl rfl) Hz rfl rfl ?_
      clear Hz az; intro az Hz
      refine wpPl_nil ?_
      refine hK20 _ _ ?_
      refine br_true Hz rfl ?_
      refine wp_seq_k fun K51 hK51 => ?_
      -- law.go:198
      refine wp_region_lit ?_
      refine L (r_mv Hz rfl) Hz rfl ?_
      clear Hz az; intro az Hz
      refine L (r_as Hz rfl) Hz rfl ?_
      clear Hz az; intro az Hz
      refine hK51 _ _ ?_
      refine wp_ret ?_
      show bodyPost _ _ _ .ret _ _
      refine ret_of (vs := [.bool (true)]) Hz Tryd.results5 ⟨rfl, trivial⟩ ?_
      have O52 : Only NoF w w44 := (Only.trans' O50 o45)
      exact ⟨rfl, O52⟩
    · -- b46 = True
      have S2 := hs47 rfl
      refine Pl.MSPT (b := true) (by kernel_rfl) Hz rfl rfl (fun W oW => r_not Hz rfl) rfl rfl ?_
      clear Hz az; intro az Hz
      refine Pl.MSP (b := true) (by kernel_rfl) (fun W oW => r_pick Hz rfl rfl rfl) Hz rfl rfl ?_
      clear Hz az; intro az Hz
      refine Pl.MSP (b := true) (by kernel_rfl) (fun W oW => r_mv Hz rfl) Hz rfl rfl ?_
      clear Hz az; intro az Hz
      refine Pl.MSPT (b := true) (by kernel_rfl) Hz rfl rfl (fun W oW => r_ldA Tryd.isAgg25 Tryd.sizeOf25 Hz rfl (Blk.ca (Blk.k B23 oW)) rfl) rfl rfl ?_
      clear Hz az; intro az Hz
      refine Pl.MSPT (b := true) (by kernel_rfl) Hz rfl rfl (fun W oW => r_ldA Tryd.isAgg25 Tryd.sizeOf25 Hz rfl (Blk.ca (Blk.k B24 oW)) rfl) rfl rfl ?_
      clear Hz az; intro az Hz
      refine Pl.MSGV (v := .int .i64 ((Wr.kind m.k))) Hz rfl rfl gd_f rfl rfl (fun hb => rfl) Tryd.call28 (fun hb => kind_v _ m.k _ _ _ _ hok1.1) rfl (fun w' o' => ⟨fun _ => (Only.trans' (Only.trans' (Only.trans' (Only.trans' o28 o31) o42) o45) o'), (Only.trans (Only.trans (Only.trans (Only.trans (Only.trans (Only.refl NoF w21) o28 (fun _ h => h.elim)) o31 (fun _ h => h.elim)) o42 (fun _ h => h.elim)) o45 (fun _ h => h.elim)) o' (fun _ h => h.elim))⟩) fun w53 o54 => ?_
      clear Hz az; intro az Hz
      refine Pl.MSGV (v := .int .i64 ((Wr.kind m2.k))) Hz rfl rfl gd_f rfl rfl (fun hb => rfl) Tryd.call28 (fun hb => kind_v _ m2.k _ _ _ _ hok2.1) rfl (fun w' o' => ⟨fun _ => (Only.trans' (Only.trans' (Only.trans' (Only.trans' (Only.trans' o28 o31) o42) o45) o54) o'), (Only.trans (Only.trans (Only.trans (Only.trans (Only.trans (Only.trans (Only.refl NoF w21) o28 (fun _ h => h.elim)) o31 (fun _ h => h.elim)) o42 (fun _ h => h.elim)) o45 (fun _ h => h.elim)) o54 (fun _ h => h.elim)) o' (fun _ h => h.elim))⟩) fun w55 o56 => ?_
      clear Hz az; intro az Hz
      refine Pl.MSPT (b := true) (by kernel_rfl) Hz rfl rfl (fun W oW => r_neI Hz rfl rfl) rfl rfl ?_
      clear Hz az; intro az Hz
      refine Pl.MSP (b := true) (by kernel_rfl) (fun W oW => r_pick Hz rfl rfl rfl) Hz rfl rfl ?_
      clear Hz az; intro az Hz
      refine wpPl_nil ?_
      refine hK20 _ _ ?_
      refine br Hz rfl (fun hc57 => ?_) (fun hc57 => ?_)
      · -- if0
        have p58 := of_decide_eq_false (nt_t hc57)
        refine wp_seq_k fun K59 hK59 => ?_
        -- law.go:198
        refine wp_region_lit ?_
        refine L (r_mv Hz rfl) Hz rfl ?_
        clear Hz az; intro az Hz
        refine L (r_as Hz rfl) Hz rfl ?_
        clear Hz az; intro az Hz
        refine hK59 _ _ ?_
        refine wp_ret ?_
        show bodyPost _ _ _ .ret _ _
        refine ret_of (vs := [.bool (true)]) Hz Tryd.results5 ⟨rfl, trivial⟩ ?_
        have O60 : Only NoF w w55 := (Only.trans' (Only.trans' (Only.trans' O50 o45) o54) o56)
        exact ⟨rfl, O60⟩
      · -- else0
        have p61 := of_decide_eq_true (nt_f hc57)
        have fw1 := S1.2 m (by simp); have fw2 := S2.2 m2 (by simp)
        have hkk : Wr.kind m.k = Wr.kind m2.k := p61
        have hw1 := (wrE_len hok1 fw1).1; have hw2 := (wrE_len hok2 fw2).1
        refine wp_skip ?_
        refine hK19 _ _ ?_
        refine wp_seq_k fun K62 hK62 => ?_
        -- law.go:200
        refine wp_region_lit ?_
        have B63 := (Blk.k (Blk.k (Blk.k (Blk.k (Blk.k (Blk.k B23 o28) o31) o42) o45) o54) o56)
        refine L (r_ldA Tryd.isAgg25 Tryd.sizeOf25 Hz rfl (Blk.ca B63) rfl) Hz rfl ?_
        clear Hz az; intro az Hz
        have O65 : Only NoF w w55 := (Only.trans' (Only.trans' (Only.trans' O50 o45) o54) o56)
        have G64 := Gr.k hG O65
        have h66 := (SliceOf.kp h1 O65 (fun _ _ h => h) (fun _ _ _ _ h => h))
        have h67 := (SliceOf.kp h2 O65 (fun _ _ h => h) (fun _ _ _ _ h => h))
        refine LCV (v := strV (wrE m)) Hz rfl rfl Tryd.call36 (write_v G64 h66 h67 hok1 fw1) rfl fun w68 o69 => ?_
        clear Hz az; intro az Hz
        refine L (r_as Hz rfl) Hz rfl ?_
        clear Hz az; intro az Hz
        refine hK62 _ _ ?_
        refine wp_seq_k fun K70 hK70 => ?_
        -- law.go:201
        refine wp_region_lit ?_
        have B71 := (Blk.k (Blk.k (Blk.k (Blk.k (Blk.k (Blk.k (Blk.k B24 o28) o31) o42) o45) o54) o56) o69)
        refine L (r_ldA Tryd.isAgg25 Tryd.sizeOf25 Hz rfl (Blk.ca B71) rfl) Hz rfl ?_
        clear Hz az; intro az Hz
        have O73 : Only NoF w w68 := (Only.trans' O65 o69)
        have G72 := Gr.k hG O73
        have h74 := (SliceOf.kp h3 O73 (fun _ _ h => h) (fun _ _ _ _ h => h))
        have h75 := (SliceOf.kp h4 O73 (fun _ _ h => h) (fun _ _ _ _ h => h))
        refine LCV (v := strV (wrE m2)) Hz rfl rfl Tryd.call36 (write_v G72 h74 h75 hok2 fw2) rfl fun w76 o77 => ?_
        clear Hz az; intro az Hz
        refine L (r_as Hz rfl) Hz rfl ?_
        clear Hz az; intro az Hz
        refine hK70 _ _ ?_
        refine wp_seq_k fun K78 hK78 => ?_
        refine wp_seq_k fun K79 hK79 => ?_
        -- law.go:202
        refine wp_region_lit ?_
        refine L (r_mv Hz rfl) Hz rfl ?_
        clear Hz az; intro az Hz
        refine L (r_lenS Tryd.underlying9 Hz rfl) Hz rfl ?_
        clear Hz az; intro az Hz
        refine L (r_mv Hz rfl) Hz rfl ?_
        clear Hz az; intro az Hz
        refine L (r_lenS Tryd.underlying9 Hz rfl) Hz rfl ?_
        clear Hz az; intro az Hz
        refine L (r_gtI Hz rfl rfl) Hz rfl ?_
        clear Hz az; intro az Hz
        refine L (r_mv Hz rfl) Hz rfl ?_
        clear Hz az; intro az Hz
        refine LG Hz rfl rfl gd_f (fun hb => r_mv Hz rfl) rfl ?_
        clear Hz az; intro az Hz
        refine LG Hz rfl rfl gd_f (fun hb => r_mv Hz rfl) rfl ?_
        clear Hz az; intro az Hz
        refine LG Hz rfl rfl gd_f (fun hb => r_lenS Tryd.underlying9 Hz (evg hb rfl)) rfl ?_
        clear Hz az; intro az Hz
        refine LG Hz rfl rfl gd_f (fun hb => r_mv Hz rfl) rfl ?_
        clear Hz az; intro az Hz
        refine LG Hz rfl rfl gd_f (fun hb => r_lenS Tryd.underlying9 Hz (evg hb rfl)) rfl ?_
        clear Hz az; intro az Hz
        refine LG Hz rfl rfl gd_f (fun hb => r_min Hz (evg hb rfl) (evg hb rfl)) rfl ?_
        clear Hz az; intro az Hz
        have z80 : (min (((List.length (wrE m) : Nat) : Int)) (((List.length (wrE m2) : Nat) : Int))) = ((min (wrE m).length (wrE m2).length : Nat) : Int) := by omega
        have le81 : (min (wrE m).length (wrE m2).length) ≤ List.length (wrE m2) := by omega
        refine LG Hz rfl rfl gd_f (fun hb => r_ssh (m := (min (wrE m).length (wrE m2).length)) Tryd.underlying9 Hz (evg hb rfl) (evg hb rfl) z80 le81) rfl ?_
        clear Hz az; intro az Hz
        refine LG Hz rfl rfl gd_f (fun hb => r_mv Hz rfl) rfl ?_
        clear Hz az; intro az Hz
        refine LG Hz rfl rfl gd_f (fun hb => r_neS Hz (evg hb rfl) (evg hb rfl)) rfl ?_
        clear Hz az; intro az Hz
        refine L (r_or Hz rfl rfl rfl) Hz rfl ?_
        clear Hz az; intro az Hz
        refine hK79 _ _ ?_
        refine br Hz rfl (fun hc82 => ?_) (fun hc82 => ?_)
        · -- if1
          have d83 := hc82
          refine wp_seq_k fun K84 hK84 => ?_
          -- law.go:203
          refine wp_region_lit ?_
          refine L (r_mv Hz rfl) Hz rfl ?_
          clear Hz az; intro az Hz
          refine L (r_as Hz rfl) Hz rfl ?_
          clear Hz az; intro az Hz
          refine hK84 _ _ ?_
          refine wp_ret ?_
          show bodyPost _ _ _ .ret _ _
          refine ret_of (vs := [.bool (true)]) Hz Tryd.results5 ⟨rfl, trivial⟩ ?_
          have O85 : Only NoF w w76 := (Only.trans' O73 o77)
          exact ⟨rfl, O85⟩
        · -- else1
          have p86 := of_decide_eq_false (or_f hc82).1
          have p87 := of_decide_eq_true (nt_f (or_f hc82).2)
          refine wp_skip ?_
          refine hK78 _ _ ?_
          refine wp_seq_k fun K88 hK88 => ?_
          -- law.go:205
          refine wp_region_lit ?_
          refine L (r_mv Hz rfl) Hz rfl ?_
          clear Hz az; intro az Hz
          obtain ⟨hst, hrd⟩ := prefix_same hok1 hok2 hkk hc82
          refine LC Hz rfl rfl Tryd.call27 (Open_v _ (wrE m)) rfl ?_
          rintro e w90 ⟨g89, rfl, hg91, B92, o93⟩; refine ⟨_, rfl, ?_⟩
          clear Hz az; intro az Hz
          refine L (r_as Hz rfl) Hz rfl ?_
          clear Hz az; intro az Hz
          refine hK88 _ _ ?_
          refine wp_seq_k fun K94 hK94 => ?_
          -- law.go:206
          refine wp_region_lit ?_
          refine L (r_mv Hz rfl) Hz rfl ?_
          clear Hz az; intro az Hz
          refine L (r_mv Hz rfl) Hz rfl ?_
          clear Hz az; intro az Hz
          refine LT Hz rfl rfl (r_mv Hz rfl) rfl ?_
          clear Hz az; intro az Hz
          refine LT Hz rfl rfl (r_neP Tryd.underlying34 Hz rfl rfl) rfl ?_
          clear Hz az; intro az Hz
          refine L (r_pick Hz rfl rfl rfl) Hz rfl ?_
          clear Hz az; intro az Hz
          refine L (r_mv Hz rfl) Hz rfl ?_
          clear Hz az; intro az Hz
          refine LT Hz rfl rfl (r_mv Hz rfl) rfl ?_
          clear Hz az; intro az Hz
          refine LT Hz rfl rfl (r_mv Hz rfl) rfl ?_
          clear Hz az; intro az Hz
          refine LT Hz rfl rfl (r_eqSt hst Hz rfl rfl) rfl ?_
          clear Hz az; intro az Hz
          refine L (r_pick Hz rfl rfl rfl) Hz rfl ?_
          clear Hz az; intro az Hz
          refine L (r_mv Hz rfl) Hz rfl ?_
          clear Hz az; intro az Hz
          refine LT Hz rfl rfl (r_mv Hz rfl) rfl ?_
          clear Hz az; intro az Hz
          have B95 := (Blk.k (Blk.k B71 o77) o93)
          refine LT Hz rfl rfl (r_ldA Tryd.isAgg25 Tryd.sizeOf25 Hz rfl (Blk.ca B95) rfl) rfl ?_
          clear Hz az; intro az Hz
          obtain ⟨hst, hrd⟩ := prefix_same hok1 hok2 hkk hc82
          have heq : eqV m2 ⟨wrE m, false⟩ = (true, ⟨[], false⟩) := hrd
          have O97 : Only NoF w w76 := (Only.trans' O73 o77)
          have h96 := SliceOf.sup (SliceOf.ltB h3) (S' := neB g89) (fun q hq => Nat.ne_of_lt (Nat.lt_of_lt_of_le hq (Nat.le_trans (size_only O97) hg91)))
          have h98 := SliceOf.sup (SliceOf.ltB h4) (S' := neB g89) (fun q hq => Nat.ne_of_lt (Nat.lt_of_lt_of_le hq (Nat.le_trans (size_only O97) hg91)))
          have O100 : Only NoF w w90 := (Only.trans' O97 o93)
          have G99 := Gr.k hG O100
          have h101 := (SliceOf.kp h96 O100 (fun _ _ h => h) (fun _ _ _ _ h => h))
          have h102 := (SliceOf.kp h98 O100 (fun _ _ h => h) (fun _ _ _ _ h => h))
          refine LCT Hz rfl rfl rfl rfl Tryd.call37 (rd_eq (congrArg (fun p => Value.bool p.1) heq) (congrArg (·.2) heq) (equal_v (s := ⟨wrE m, false⟩) G99 B92 (Nat.le_trans hG.1 (Nat.le_trans (size_only O97) hg91)) (by show (wrE m).length ≤ _; omega) (fun h => by cases h) h101 h102 hok2)) rfl ?_
          rintro e w103 ⟨rfl, B104, o105⟩; refine ⟨_, rfl, ?_⟩
          clear Hz az; intro az Hz
          refine L (r_pick Hz rfl rfl rfl) Hz rfl ?_
          clear Hz az; intro az Hz
          refine L (r_as Hz rfl) Hz rfl ?_
          clear Hz az; intro az Hz
          refine hK94 _ _ ?_
          refine wp_ret ?_
          show bodyPost _ _ _ .ret _ _
          refine ret_of (vs := [.bool (true)]) Hz Tryd.results5 ⟨rfl, trivial⟩ ?_
          have O106 : Only NoF w w103 := (o_sg O100 o105 (size_only O97) (oneF_ge hg91))
          exact ⟨rfl, O106⟩
end Go.Proofs.YtgmnoianhonihaaDoor
