/-
  WireNests, walked: it returns true. No condition but the listed variables.
-/
import Derived.Test.YtgmnoianhonihaaDoorWW7
namespace Go.Proofs.YtgmnoianhonihaaDoor
set_option linter.unusedVariables false
set_option linter.unusedSimpArgs false
set_option linter.unusedSectionVars false
open Go.RowKit

theorem r_neIe {P : Program} {w : World} {n : Nat} {l : List (Nat × Value)} {a : Act} {dst : Option Tmp} {ty : TypeId} {pos : String} {aft : Array Edge} {g : Option (Nat × Bool)} {x y : Operand} {k : IntKind} {p q : Int} {t yt : TypeId} (he : p = q) (H : Fr n l a) (hx : ev l x = some (.int k p)) (hy : ev l y = some (.int k q)) :
    (execOp a.eval ⟨dst, .binOp .neq t x y yt, ty, pos, aft, g⟩).run P w = .ok (.value (.bool false)) w := by
  subst he
  exact r_neRI H hx hy
theorem lt_eq {P : Program} {f : FuncId} {vs : Array Value} {α : Type} {g : Nat} {K : Row α} {e : TypeId} {p q : List α × Wr.Rd} {w : World} (h : p = q) (hc : Calls P f vs w (ListTo g K e p.1 p.2 w)) : Calls P f vs w (ListTo g K e q.1 q.2 w) := h ▸ hc
theorem text_size2 {s : Str} (h : s.length ≤ 1000000000) : (Wr.textE s).length ≤ s.length + 22 := by
  have := itoa_len ((s.length : Nat) : Int) (by omega) (by omega)
  simp only [Wr.textE, List.length_append, List.length_singleton]; omega
theorem nests_size {l : List VM} (h1 : l.length ≤ 20) (h : ∀ x ∈ l, (wrE x).length ≤ 200000) : ((l.map wrE).flatMap Wr.textE).length ≤ 1000000000 ∧ (Wr.textsE (l.map wrE)).length ≤ 5000000 ∧ (l.map wrE).length ≤ 20 ∧ ∀ x ∈ l.map wrE, x.length ≤ 200000 := by
  have hm : ∀ x ∈ l.map wrE, x.length ≤ 200000 := fun x hx => by
    obtain ⟨y, hy, rfl⟩ := List.mem_map.1 hx
    exact h y hy
  have e := flat_len_le Wr.textE 200022 (l.map wrE) fun x hx => Nat.le_trans (text_size2 (by have := hm x hx; omega)) (by have := hm x hx; omega)
  have hl : (l.map wrE).length ≤ 20 := by rw [List.length_map]; exact h1
  have e2 : (l.map wrE).length * 200022 ≤ 20 * 200022 := Nat.mul_le_mul_right _ hl
  have i := itoa_len (((l.map wrE).length : Nat) : Int) (by omega) (by omega)
  refine ⟨by omega, ?_, hl, hm⟩
  simp only [Wr.textsE, Wr.listE, List.length_append, List.length_singleton]; omega
theorem nests_text {X : Str} (h : X.length ≤ 1000000000) : Wr.text ⟨Wr.textE X, false⟩ = (X, ⟨[], false⟩) := by
  have := Wr.text_ok (t := X) (by omega) []
  rwa [List.append_nil] at this
theorem nests_texts {O : List Str} (_ : (O.flatMap Wr.textE).length ≤ 1000000000) (h : O.length ≤ 20 ∧ ∀ x ∈ O, x.length ≤ 200000) : Wr.texts ⟨Wr.textsE O, false⟩ = (O, ⟨[], false⟩) := by
  have := Wr.list_ok' (one := Wr.text) (oneE := Wr.textE) (l := O) (by omega) (fun x hx r => Wr.text_ok (by have := h.2 x hx; omega) r) []
  rwa [List.append_nil] at this
theorem nests_len {X : Str} (h : X.length ≤ 5000000) : (Wr.textE X).length ≤ 1000000000 := Nat.le_trans (text_size2 (by omega)) (by omega)
theorem nests_read {O : List Str} {l : List VM} {j : Nat} {x : Str} {m : VM} (hx : O[j]? = some x) (hm : l[j]? = some m) (hO : O = l.map wrE) (h : OkM m) : eqV m ⟨x, false⟩ = (true, ⟨[], false⟩) := by
  rw [hO, List.getElem?_map, hm] at hx
  obtain rfl := Option.some.inj hx
  have := read_wr h []
  rwa [List.append_nil] at this
theorem nests_el {O : List Str} {l : List VM} {j : Nat} {x : Str} (hx : O[j]? = some x) (_ : O = l.map wrE) (h : O.length ≤ 20 ∧ ∀ x ∈ O, x.length ≤ 200000) : List.length x ≤ 1000000000 := by
  have := h.2 x (List.mem_of_getElem? hx); omega
set_option maxRecDepth 20000 in
set_option maxHeartbeats 4000000 in
theorem nests_v_ {w : World} (hG : Gr w) {l : List VM} {A1 : Option Addr} {c1 : Nat} (f1 : ValsV w w (.slice A1 l.length c1) l) : Calls Tryd.prog 6 [.slice A1 l.length c1].toArray w (Fix (.bool true) w) := by
  refine calls_start Tryd.func6 rfl rfl ?_
  intro az Hz
  rw [Tryd.ntmps6] at Hz
  refine wp_seq_k fun K1 hK1 => ?_
  -- law.go:210
  refine wp_region_lit ?_
  refine L (r_as Hz rfl) Hz rfl ?_
  clear Hz az; intro az Hz
  refine hK1 _ _ ?_
  refine wp_seq_k fun K2 hK2 => ?_
  -- law.go:211
  refine wp_region_lit ?_
  have G3 := Gr.k hG (Only.refl NoF w)
  refine LCV (v := .bool (true)) Hz rfl rfl Tryd.call15 (small_v G3) rfl fun w4 o5 => ?_
  clear Hz az; intro az Hz
  refine L (r_as Hz rfl) Hz rfl ?_
  clear Hz az; intro az Hz
  refine hK2 _ _ ?_
  refine wp_seq_k fun K6 hK6 => ?_
  refine wp_seq_k fun K7 hK7 => ?_
  -- law.go:212
  refine wp_region_lit ?_
  refine L (r_mv Hz rfl) Hz rfl ?_
  clear Hz az; intro az Hz
  have h8 := (SliceOf.kp f1 o5 (fun _ _ h => h) (fun _ _ _ _ h => h))
  refine LCE Hz rfl rfl Tryd.call16 (few_v (vals_up h8 o5)) rfl fun b11 w9 hs12 o10 => ?_
  clear Hz az; intro az Hz
  refine L (r_not Hz rfl) Hz rfl ?_
  clear Hz az; intro az Hz
  refine hK7 _ _ ?_
  refine br Hz rfl (fun hc13 => ?_) (fun hc13 => ?_)
  · -- if0
    have q14 : b11 = false := (nt_t hc13)
    refine wp_seq_k fun K15 hK15 => ?_
    -- law.go:213
    refine wp_region_lit ?_
    refine L (r_mv Hz rfl) Hz rfl ?_
    clear Hz az; intro az Hz
    refine L (r_as Hz rfl) Hz rfl ?_
    clear Hz az; intro az Hz
    refine hK15 _ _ ?_
    refine wp_ret ?_
    show bodyPost _ _ _ .ret _ _
    refine ret_of (vs := [.bool (true)]) Hz Tryd.results6 ⟨rfl, trivial⟩ ?_
    have O16 : Only NoF w w9 := (Only.trans' o5 o10)
    exact ⟨rfl, O16⟩
  · -- else0
    have q17 : b11 = true := (nt_f hc13)
    have S18 := hs12 q17
    obtain ⟨few1, fewm⟩ := S18
    have hnz := nests_size few1 fun x hx => (wrE_len (okM (Row.oks (KVal w) f1 x hx)) (fewm x hx)).1
    refine wp_skip ?_
    refine hK6 _ _ ?_
    refine wp_seq_k fun K19 hK19 => ?_
    -- law.go:215
    refine wp_region_lit ?_
    refine L (r_as Hz rfl) Hz rfl ?_
    clear Hz az; intro az Hz
    refine hK19 _ _ ?_
    refine wp_seq_k fun K20 hK20 => ?_
    refine wp_seq_k fun K21 hK21 => ?_
    -- law.go:216
    refine wp_region_lit ?_
    refine L (r_as Hz rfl) Hz rfl ?_
    clear Hz az; intro az Hz
    refine hK21 _ _ ?_
    refine wp_block ?_
    refine wp_loop_m (fun mz az W => ∃ k : Nat, ∃ O : List Str, ∃ Ao : Option Addr, ∃ co : Nat, mz = l.length - k ∧ Fr 86 [(0, .slice A1 (l.length) c1), (3, .bool (true)), (5, .int .i64 ((k : Int))), (4, .slice Ao (O.length) co)] az ∧ (k ≤ l.length) ∧ (O = (l.take k).map wrE) ∧ (∀ z ∈ O, KStr.ok z) ∧ Only NoF w W ∧ W.ownsRow w.heap.size 9 1 (.slice Ao O.length co) O.length (List.flatMap KStr.cells O)) ?_ ?_
    · -- start
      have O22 : Only NoF w w9 := (Only.trans' o5 o10)
      exact ⟨_, 0, [], none, 0, rfl, Hz.cut ⟨rfl, rfl, rfl, rfl, trivial⟩, Nat.zero_le _, rfl, (fun z hz => by cases hz), O22, (World.ownsRow_nil _ _ _ _)⟩
    clear Hz az
    rintro mz az w23 ⟨k, O, Ao, co, hm25, Hz, hk, hO, okO, o24, rO⟩
    have hOl : O.length = k := by rw [hO, List.length_map, List.length_take]; omega
    refine wp_seq_k fun K26 hK26 => ?_
    refine wp_seq_k fun K27 hK27 => ?_
    -- law.go:216
    refine wp_region_lit ?_
    refine L (r_mv Hz rfl) Hz rfl ?_
    clear Hz az; intro az Hz
    refine L (r_mv Hz rfl) Hz rfl ?_
    clear Hz az; intro az Hz
    refine L (r_lenL Tryd.underlying28 Hz rfl) Hz rfl ?_
    clear Hz az; intro az Hz
    refine L (r_ltI Hz rfl rfl) Hz rfl ?_
    clear Hz az; intro az Hz
    refine hK27 _ _ ?_
    refine br Hz rfl (fun hc28 => ?_) (fun hc28 => ?_)
    · -- if1
      have p29 := of_decide_eq_true hc28
      refine wp_skip ?_
      refine hK26 _ _ ?_
      refine wp_seq_k fun K30 hK30 => ?_
      refine wp_block ?_
      -- law.go:217
      refine wp_region_lit ?_
      refine L (r_mv Hz rfl) Hz rfl ?_
      clear Hz az; intro az Hz
      refine L (r_mv Hz rfl) Hz rfl ?_
      clear Hz az; intro az Hz
      refine L (r_mv Hz rfl) Hz rfl ?_
      clear Hz az; intro az Hz
      have hk31 : k < (l).length := by omega
      have h37 := (SliceOf.kp f1 o24 (fun _ _ h => h) (fun _ _ _ _ h => h))
      obtain ⟨m32, hm33, ok34, hA35⟩ := Row.el (KVal w) h37 hk31
      have E36 : ∀ W, Only NoF w23 W → CA W (eA A1 5 (k)) [.int .i64 (m32.k), .int .i64 (m32.n), strV (m32.s), .slice m32.A (m32.l.length) m32.c, .slice m32.B (m32.t.length) m32.d] := Row.ce (KVal w) h37 hm33 rfl
      refine L (r_ia (k := k) (size := 5) Tryd.underlying28 Tryd.sizeOf25 Hz rfl rfl rfl hk31 hA35) Hz rfl ?_
      clear Hz az; intro az Hz
      refine L (r_ldA Tryd.isAgg25 Tryd.sizeOf25 Hz rfl (E36 _ (Only.refl NoF w23)) rfl) Hz rfl ?_
      clear Hz az; intro az Hz
      have hwl := (wrE_len (okM ok34) (fewm _ (List.mem_of_getElem? hm33))).1
      have G38 := Gr.k hG o24
      have h39 := (SliceOf.kp ok34.2.2.2.1 o24 (fun _ _ h => h) (fun _ _ _ _ h => h))
      have h40 := (SliceOf.kp ok34.2.2.2.2 o24 (fun _ _ h => h) (fun _ _ _ _ h => h))
      refine LCV (v := strV (wrE m32)) Hz rfl rfl Tryd.call36 (write_v G38 h39 h40 (okM ok34) (fewm _ (List.mem_of_getElem? hm33))) rfl fun w41 o42 => ?_
      clear Hz az; intro az Hz
      obtain ⟨A43, w44, hw, hA, r45, o46⟩ := Row.made (w := w41) KStr (e := 9) ([wrE m32] : List Str) (by simp only [List.length_cons, List.length_nil]; unfold maxLen; omega)
      refine L (r_bs (z := strV ([])) (size := 1) (vs := [(0, strV (wrE m32))]) (cs := List.flatMap KStr.cells [wrE m32]) Tryd.underlying23 Tryd.sizeOf9 Tryd.zeroValue9 rfl (Fr.evalps Hz rfl) (by kernel_rfl)) Hz rfl ?_
      rw [← hw, ← hA]; clear Hz az; intro az Hz
      clear hw hA
      have ok47 : ∀ zq ∈ ([wrE m32] : List Str), KStr.ok zq := by intro zq hx; simp only [List.mem_cons, List.not_mem_nil, or_false] at hx; rcases hx with rfl <;> first | exact (by show List.length (wrE m32) ≤ maxLen; unfold maxLen; omega)
      have r48 := (ow_k (ow_k rO o42) o46)
      have h49 := Row.own KStr r45 ok47
      have h50 := SliceOf.pl h49
      have hb58 : (List.length (O) + List.length ([wrE m32])) * 16 ≤ 140737488355328 := by simp only [List.length_cons, List.length_nil]; omega
      have O59 : Only NoF w w44 := (Only.trans' (Only.trans' o24 o42) o46)
      obtain ⟨A51, c52, w53, hr54, r55, o56, al57⟩ := Row.app (P := Tryd.prog) (l := O) (l2 := [wrE m32]) KStr elemStr r48 h50 hb58 (by unfold maxLen; omega) (size_only O59)
      refine L (r_app hr54 Hz rfl rfl) Hz rfl ?_
      clear Hz az; intro az Hz
      have ok60 : ∀ zq ∈ (O ++ [wrE m32]), KStr.ok zq := (fun x hx => (List.mem_append.1 hx).elim (okO x) ((Row.oks KStr h50) x))
      have h61 := Row.own KStr r55 ok60
      refine L (r_as Hz rfl) Hz rfl ?_
      clear Hz az; intro az Hz
      refine hK30 _ _ ?_
      -- law.go:216
      refine wp_region_lit ?_
      refine L (r_mv Hz rfl) Hz rfl ?_
      clear Hz az; intro az Hz
      have i62 : I64 (((k : Int) + 1)) := by unfold I64; omega
      refine L (r_addI (r := ((k : Int) + 1)) Hz rfl rfl rfl i62) Hz rfl ?_
      clear Hz az; intro az Hz
      refine L (r_as Hz rfl) Hz rfl ?_
      clear Hz az; intro az Hz
      have O63 : Only NoF w w53 := (o_sg O59 o56 (Nat.le_refl _) (ownF_ge rO))
      exact ⟨_, (by omega), k + 1, _, A51, c52, rfl, Hz.cut ⟨rfl, rfl, rfl, rfl, trivial⟩, (by omega), (by rw [hO, take_succ_get hm33, List.map_append]; rfl), ok60, O63, (ow_low r55 (Nat.le_refl _))⟩
    · -- else1
      have p64 := of_decide_eq_false hc28
      refine wp_exit ?_
      have hO2 : O = l.map wrE := by rw [hO, List.take_of_length_le (by omega)]
      have hOz : O.length = l.length := by rw [hO2, List.length_map]
      rw [← hO2] at hnz; obtain ⟨hz1, hz2, hz3⟩ := hnz
      have hrt1 := nests_text (X := Wr.textsE O) (by omega); have hrt2 := nests_texts (O := O) hz1 hz3
      refine th_exit ?_
      refine th_exit ?_
      refine ib_hit ?_
      refine hK20 _ _ ?_
      refine wp_seq_k fun K65 hK65 => ?_
      -- law.go:219
      refine wp_region_lit ?_
      refine L (r_mv Hz rfl) Hz rfl ?_
      clear Hz az; intro az Hz
      have G66 := Gr.k hG o24
      have h67 := Row.own KStr rO okO
      have h68 := SliceOf.pl h67
      refine LCV (v := strV (Wr.textsE O)) Hz rfl rfl Tryd.call25 (Texts_v G66 h68 (by omega) hz1) rfl fun w69 o70 => ?_
      clear Hz az; intro az Hz
      have O72 : Only NoF w w69 := (Only.trans' o24 o70)
      have G71 := Gr.k hG O72
      refine LCV (v := strV (Wr.textE (Wr.textsE O))) Hz rfl rfl Tryd.call21 (Text_v G71 (Wr.textsE O) (by omega)) rfl fun w73 o74 => ?_
      clear Hz az; intro az Hz
      refine LC Hz rfl rfl Tryd.call27 (Open_v _ (Wr.textE (Wr.textsE O))) rfl ?_
      rintro e w76 ⟨g75, rfl, hg77, B78, o79⟩; refine ⟨_, rfl, ?_⟩
      clear Hz az; intro az Hz
      refine L (r_as Hz rfl) Hz rfl ?_
      clear Hz az; intro az Hz
      refine hK65 _ _ ?_
      refine wp_seq_k fun K80 hK80 => ?_
      refine wp_seq_k fun K81 hK81 => ?_
      -- law.go:220
      refine wp_region_lit ?_
      refine L (r_mv Hz rfl) Hz rfl ?_
      clear Hz az; intro az Hz
      refine L (r_eqP Tryd.underlying34 Hz rfl rfl) Hz rfl ?_
      clear Hz az; intro az Hz
      refine hK81 _ _ ?_
      refine br_false Hz rfl ?_
      refine wp_skip ?_
      refine hK80 _ _ ?_
      refine wp_seq_k fun K82 hK82 => ?_
      -- law.go:223
      refine wp_region_lit ?_
      refine L (r_mv Hz rfl) Hz rfl ?_
      clear Hz az; intro az Hz
      have O84 : Only NoF w w76 := (Only.trans' (Only.trans' O72 o74) o79)
      have G83 := Gr.k hG O84
      have O85 : Only NoF w w73 := (Only.trans' O72 o74)
      refine LC Hz rfl rfl Tryd.call31 (rd_eq (congrArg (fun p => strV p.1) hrt1) (congrArg (·.2) hrt1) (rText_v (s := ⟨Wr.textE (Wr.textsE O), false⟩) G83 B78 (Nat.le_trans hG.1 (Nat.le_trans (size_only O85) hg77)) (nests_len (by omega)))) rfl ?_
      rintro e w86 ⟨rfl, B87, o88⟩; refine ⟨_, rfl, ?_⟩
      clear Hz az; intro az Hz
      refine LC Hz rfl rfl Tryd.call27 (Open_v _ (Wr.textsE O)) rfl ?_
      rintro e w90 ⟨g89, rfl, hg91, B92, o93⟩; refine ⟨_, rfl, ?_⟩
      clear Hz az; intro az Hz
      refine L (r_as Hz rfl) Hz rfl ?_
      clear Hz az; intro az Hz
      refine hK82 _ _ ?_
      refine wp_seq_k fun K94 hK94 => ?_
      refine wp_seq_k fun K95 hK95 => ?_
      -- law.go:224
      refine wp_region_lit ?_
      refine L (r_mv Hz rfl) Hz rfl ?_
      clear Hz az; intro az Hz
      refine L (r_eqP Tryd.underlying34 Hz rfl rfl) Hz rfl ?_
      clear Hz az; intro az Hz
      refine L (r_mv Hz rfl) Hz rfl ?_
      clear Hz az; intro az Hz
      refine LT Hz rfl rfl (r_mv Hz rfl) rfl ?_
      clear Hz az; intro az Hz
      have B96 := (Blk.k B87 o93)
      refine LGV (v := .bool (true)) Hz rfl rfl gd_f rfl (fun hb => rfl) Tryd.call35 (fun hb => rDone_v (s := ⟨[], false⟩) B96) rfl fun w97 o98 => ?_
      clear Hz az; intro az Hz
      refine LT Hz rfl rfl (r_not Hz rfl) rfl ?_
      clear Hz az; intro az Hz
      refine L (r_pick Hz rfl rfl rfl) Hz rfl ?_
      clear Hz az; intro az Hz
      refine hK95 _ _ ?_
      refine br_false Hz rfl ?_
      refine wp_skip ?_
      refine hK94 _ _ ?_
      refine wp_seq_k fun K99 hK99 => ?_
      -- law.go:227
      refine wp_region_lit ?_
      refine L (r_mv Hz rfl) Hz rfl ?_
      clear Hz az; intro az Hz
      have O108 : Only NoF w w97 := (Only.trans' (Only.trans' (o_sg O84 o88 (size_only O85) (oneF_ge hg77)) o93) o98)
      have G107 := Gr.k hG O108
      have B109 := (Blk.k B92 o98)
      have O110 : Only NoF w w86 := (o_sg O84 o88 (size_only O85) (oneF_ge hg77))
      refine LC Hz rfl rfl Tryd.call33 (lt_eq hrt2 (rTexts_v (s := ⟨Wr.textsE O, false⟩) G107 B109 (Nat.le_trans hG.1 (Nat.le_trans (size_only O110) hg91)) (by show (Wr.textsE O).length ≤ _; omega) (fun h => by cases h))) rfl ?_
      rintro e w100 ⟨A103, c104, rfl, r105, k106, B101, o102⟩; refine ⟨_, rfl, ?_⟩
      clear Hz az; intro az Hz
      refine L (r_as Hz rfl) Hz rfl ?_
      clear Hz az; intro az Hz
      refine hK99 _ _ ?_
      refine wp_seq_k fun K111 hK111 => ?_
      refine wp_seq_k fun K112 hK112 => ?_
      -- law.go:228
      refine wp_region_lit ?_
      refine L (r_mv Hz rfl) Hz rfl ?_
      clear Hz az; intro az Hz
      refine L (r_lenL Tryd.underlying23 Hz rfl) Hz rfl ?_
      clear Hz az; intro az Hz
      refine L (r_mv Hz rfl) Hz rfl ?_
      clear Hz az; intro az Hz
      refine L (r_lenL Tryd.underlying28 Hz rfl) Hz rfl ?_
      clear Hz az; intro az Hz
      refine L (r_neIe (show ((O.length : Nat) : Int) = ((l.length : Nat) : Int) by omega) Hz rfl rfl) Hz rfl ?_
      clear Hz az; intro az Hz
      refine L (r_mv Hz rfl) Hz rfl ?_
      clear Hz az; intro az Hz
      refine LT Hz rfl rfl (r_mv Hz rfl) rfl ?_
      clear Hz az; intro az Hz
      refine LGV (v := .bool (true)) Hz rfl rfl gd_f rfl (fun hb => rfl) Tryd.call35 (fun hb => rDone_v (s := ⟨[], false⟩) B101) rfl fun w113 o114 => ?_
      clear Hz az; intro az Hz
      refine LT Hz rfl rfl (r_not Hz rfl) rfl ?_
      clear Hz az; intro az Hz
      refine L (r_pick Hz rfl rfl rfl) Hz rfl ?_
      clear Hz az; intro az Hz
      refine hK112 _ _ ?_
      refine br_false Hz rfl ?_
      refine wp_skip ?_
      refine hK111 _ _ ?_
      refine wp_seq_k fun K115 hK115 => ?_
      refine wp_seq_k fun K116 hK116 => ?_
      -- law.go:231
      refine wp_region_lit ?_
      refine L (r_as Hz rfl) Hz rfl ?_
      clear Hz az; intro az Hz
      refine hK116 _ _ ?_
      refine wp_block ?_
      refine wp_loop_m (fun mz az W => ∃ j : Nat, mz = l.length - j ∧ Fr 86 [(0, .slice A1 (l.length) c1), (3, .bool (true)), (8, .slice A103 (O.length) c104), (9, .int .i64 ((j : Int)))] az ∧ (j ≤ l.length) ∧ Only NoF w113 W) ?_ ?_
      · -- start
        exact ⟨_, 0, rfl, Hz.cut ⟨rfl, rfl, rfl, rfl, trivial⟩, Nat.zero_le _, (Only.refl NoF w113)⟩
      clear Hz az
      rintro mz az w117 ⟨j, hm119, Hz, hj, o118⟩
      refine wp_seq_k fun K120 hK120 => ?_
      refine wp_seq_k fun K121 hK121 => ?_
      -- law.go:231
      refine wp_region_lit ?_
      refine L (r_mv Hz rfl) Hz rfl ?_
      clear Hz az; intro az Hz
      refine L (r_mv Hz rfl) Hz rfl ?_
      clear Hz az; intro az Hz
      refine L (r_lenL Tryd.underlying28 Hz rfl) Hz rfl ?_
      clear Hz az; intro az Hz
      refine L (r_ltI Hz rfl rfl) Hz rfl ?_
      clear Hz az; intro az Hz
      refine hK121 _ _ ?_
      refine br Hz rfl (fun hc122 => ?_) (fun hc122 => ?_)
      · -- if5
        have p123 := of_decide_eq_true hc122
        refine wp_skip ?_
        refine hK120 _ _ ?_
        refine wp_seq_k fun K124 hK124 => ?_
        refine wp_block ?_
        refine wp_seq_k fun K125 hK125 => ?_
        -- law.go:232
        refine wp_region_lit ?_
        refine L (r_mv Hz rfl) Hz rfl ?_
        clear Hz az; intro az Hz
        refine L (r_mv Hz rfl) Hz rfl ?_
        clear Hz az; intro az Hz
        have h126 := Row.own KStr r105 k106
        have hk127 : j < (O).length := by omega
        have O133 : Only NoF w100 w117 := (Only.trans' o114 o118)
        have h134 := (SliceOf.kp h126 O133 (fun _ _ h => h) (fun _ _ _ _ h => h))
        have h135 := SliceOf.pl h134
        obtain ⟨m128, hm129, ok130, hA131⟩ := Row.el KStr h135 hk127
        have E132 : ∀ W, Only NoF w117 W → CA W (eA A103 1 (j)) [strV (m128)] := Row.ce KStr h135 hm129 rfl
        refine L (r_ia (k := j) (size := 1) Tryd.underlying23 Tryd.sizeOf9 Hz rfl rfl rfl hk127 hA131) Hz rfl ?_
        clear Hz az; intro az Hz
        refine L (r_ld Tryd.isAgg9 Hz rfl (CA.first (E132 _ (Only.refl NoF w117)))) Hz rfl ?_
        clear Hz az; intro az Hz
        refine LC Hz rfl rfl Tryd.call27 (Open_v _ m128) rfl ?_
        rintro e w137 ⟨g136, rfl, hg138, B139, o140⟩; refine ⟨_, rfl, ?_⟩
        clear Hz az; intro az Hz
        refine L (r_as Hz rfl) Hz rfl ?_
        clear Hz az; intro az Hz
        refine hK125 _ _ ?_
        refine wp_seq_k fun K141 hK141 => ?_
        -- law.go:233
        refine wp_region_lit ?_
        refine L (r_mv Hz rfl) Hz rfl ?_
        clear Hz az; intro az Hz
        refine L (r_eqP Tryd.underlying34 Hz rfl rfl) Hz rfl ?_
        clear Hz az; intro az Hz
        refine L (r_mv Hz rfl) Hz rfl ?_
        clear Hz az; intro az Hz
        refine LT Hz rfl rfl (r_mv Hz rfl) rfl ?_
        clear Hz az; intro az Hz
        refine LT Hz rfl rfl (r_mv Hz rfl) rfl ?_
        clear Hz az; intro az Hz
        refine LT Hz rfl rfl (r_mv Hz rfl) rfl ?_
        clear Hz az; intro az Hz
        have hk142 : j < (l).length := by omega
        have O148 : Only NoF w w137 := (Only.trans' (Only.trans' (Only.trans' (o_sg O108 o102 (size_only O110) (oneF_ge hg91)) o114) o118) o140)
        have h149 := (SliceOf.kp f1 O148 (fun _ _ h => h) (fun _ _ _ _ h => h))
        obtain ⟨m143, hm144, ok145, hA146⟩ := Row.el (KVal w) h149 hk142
        have E147 : ∀ W, Only NoF w137 W → CA W (eA A1 5 (j)) [.int .i64 (m143.k), .int .i64 (m143.n), strV (m143.s), .slice m143.A (m143.l.length) m143.c, .slice m143.B (m143.t.length) m143.d] := Row.ce (KVal w) h149 hm144 rfl
        refine LT Hz rfl rfl (r_ia (k := j) (size := 5) Tryd.underlying28 Tryd.sizeOf25 Hz rfl rfl rfl hk142 hA146) rfl ?_
        clear Hz az; intro az Hz
        refine LT Hz rfl rfl (r_ldA Tryd.isAgg25 Tryd.sizeOf25 Hz rfl (E147 _ (Only.refl NoF w137)) rfl) rfl ?_
        clear Hz az; intro az Hz
        have heq := nests_read hm129 hm144 hO2 (okM ok145)
        have hxl : List.length m128 ≤ 1000000000 := nests_el hm129 hO2 hz3
        have O151 : Only NoF w w117 := (Only.trans' (Only.trans' (o_sg O108 o102 (size_only O110) (oneF_ge hg91)) o114) o118)
        have h150 := SliceOf.sup (SliceOf.ltB ok145.2.2.2.1) (S' := neB g136) (fun q hq => Nat.ne_of_lt (Nat.lt_of_lt_of_le hq (Nat.le_trans (size_only O151) hg138)))
        have h152 := SliceOf.sup (SliceOf.ltB ok145.2.2.2.2) (S' := neB g136) (fun q hq => Nat.ne_of_lt (Nat.lt_of_lt_of_le hq (Nat.le_trans (size_only O151) hg138)))
        have G153 := Gr.k hG O148
        have h154 := (SliceOf.kp h150 O148 (fun _ _ h => h) (fun _ _ _ _ h => h))
        have h155 := (SliceOf.kp h152 O148 (fun _ _ h => h) (fun _ _ _ _ h => h))
        refine LCT Hz rfl rfl rfl rfl Tryd.call37 (rd_eq (congrArg (fun p => Value.bool p.1) heq) (congrArg (·.2) heq) (equal_v (s := ⟨m128, false⟩) G153 B139 (Nat.le_trans hG.1 (Nat.le_trans (size_only O151) hg138)) hxl (fun h => by cases h) h154 h155 (okM ok145))) rfl ?_
        rintro e w156 ⟨rfl, B157, o158⟩; refine ⟨_, rfl, ?_⟩
        clear Hz az; intro az Hz
        refine LT Hz rfl rfl (r_not Hz rfl) rfl ?_
        clear Hz az; intro az Hz
        refine L (r_pick Hz rfl rfl rfl) Hz rfl ?_
        clear Hz az; intro az Hz
        refine L (r_mv Hz rfl) Hz rfl ?_
        clear Hz az; intro az Hz
        refine LT Hz rfl rfl (r_mv Hz rfl) rfl ?_
        clear Hz az; intro az Hz
        refine LGV (v := .bool (true)) Hz rfl rfl gd_f rfl (fun hb => rfl) Tryd.call35 (fun hb => rDone_v (s := ⟨[], false⟩) B157) rfl fun w159 o160 => ?_
        clear Hz az; intro az Hz
        refine LT Hz rfl rfl (r_not Hz rfl) rfl ?_
        clear Hz az; intro az Hz
        refine L (r_pick Hz rfl rfl rfl) Hz rfl ?_
        clear Hz az; intro az Hz
        refine hK141 _ _ ?_
        refine br_false Hz rfl ?_
        refine wp_skip ?_
        refine hK124 _ _ ?_
        -- law.go:231
        refine wp_region_lit ?_
        refine L (r_mv Hz rfl) Hz rfl ?_
        clear Hz az; intro az Hz
        have i161 : I64 (((j : Int) + 1)) := by unfold I64; omega
        refine L (r_addI (r := ((j : Int) + 1)) Hz rfl rfl rfl i161) Hz rfl ?_
        clear Hz az; intro az Hz
        refine L (r_as Hz rfl) Hz rfl ?_
        clear Hz az; intro az Hz
        have O162 : Only NoF w113 w159 := (Only.trans' (o_sg (Only.trans' o118 o140) o158 (size_only o118) (oneF_ge hg138)) o160)
        exact ⟨_, (by omega), j + 1, rfl, Hz.cut ⟨rfl, rfl, rfl, rfl, trivial⟩, (by omega), O162⟩
      · -- else5
        have p163 := of_decide_eq_false hc122
        refine wp_exit ?_
        refine th_exit ?_
        refine th_exit ?_
        refine ib_hit ?_
        refine hK115 _ _ ?_
        refine wp_seq_k fun K164 hK164 => ?_
        -- law.go:237
        refine wp_region_lit ?_
        refine L (r_mv Hz rfl) Hz rfl ?_
        clear Hz az; intro az Hz
        refine L (r_as Hz rfl) Hz rfl ?_
        clear Hz az; intro az Hz
        refine hK164 _ _ ?_
        refine wp_ret ?_
        show bodyPost _ _ _ .ret _ _
        refine ret_of (vs := [.bool (true)]) Hz Tryd.results6 ⟨rfl, trivial⟩ ?_
        have O165 : Only NoF w w117 := (Only.trans' (Only.trans' (o_sg O108 o102 (size_only O110) (oneF_ge hg91)) o114) o118)
        exact ⟨rfl, O165⟩

theorem nests_v {w : World} (hG : Gr w) {v : Value} {l : List VM} (h : ValsV w w v l) : Calls Tryd.prog 6 #[v] w (Fix (.bool true) w) := by
  obtain ⟨A1, c1, rfl, _⟩ := SliceOf.shape h
  exact nests_v_ hG h
end Go.Proofs.YtgmnoianhonihaaDoor
