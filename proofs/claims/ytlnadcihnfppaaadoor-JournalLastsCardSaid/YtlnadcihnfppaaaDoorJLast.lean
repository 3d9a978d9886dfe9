/-
  JournalLasts, walked: it returns true. No condition but the listed variables.
-/
import Derived.Test.YtlnadcihnfppaaaDoorJStay
import Derived.Test.YtlnadcihnfppaaaDoorJTL
namespace Go.Proofs.YtlnadcihnfppaaaDoor
set_option linter.unusedVariables false
set_option linter.unusedSimpArgs false
set_option linter.unusedSectionVars false
open Go.RowKit

theorem build_Op (k : Int) (A : Option Addr) (n c : Nat) (w : World) : (Instr.build 49 #[(0, .int .i64 k), (3, .slice A n c)]).run Tryd.prog w = .ok (.agg #[.int .i64 k, strV [], .int .i64 0, .slice A n c]) w := by kernel_rfl
section
variable {P : Program} {w : World} {n : Nat} {l : List (Nat × Value)} {a : Act} {dst : Option Tmp} {ty : TypeId} {pos : String} {aft : Array Edge} {g : Option (Nat × Bool)} {x y : Operand} {t yt : TypeId} {p q : Int}
theorem r_eqIl (H : Fr n l a) (hx : ev l x = some (.int .i64 p)) (hy : ev l y = some (.int .i64 q)) (h : decide (p = q) = false) : (execOp a.eval ⟨dst, .binOp .eql t x y yt, ty, pos, aft, g⟩).run P w = .ok (.value (.bool false)) w := by
  have := r_eqI (P := P) (w := w) (dst := dst) (ty := ty) (pos := pos) (aft := aft) (g := g) (t := t) (yt := yt) H hx hy
  rwa [h] at this
theorem r_neIl (H : Fr n l a) (hx : ev l x = some (.int .i64 p)) (hy : ev l y = some (.int .i64 q)) (h : decide (p = q) = false) : (execOp a.eval ⟨dst, .binOp .neq t x y yt, ty, pos, aft, g⟩).run P w = .ok (.value (.bool true)) w := by
  have := r_neI (P := P) (w := w) (dst := dst) (ty := ty) (pos := pos) (aft := aft) (g := g) (t := t) (yt := yt) H hx hy
  rwa [h] at this
end
theorem pre_true {a l : List Str} (h : a <+: l) : (decide (((a.length : Nat) : Int) ≤ ((l.length : Nat) : Int)) && decide (List.take (min a.length l.length) l = a)) = true := by
  have h1 := h.length_le
  have h2 := List.prefix_iff_eq_take.1 h
  rw [decide_eq_true (by omega), Nat.min_eq_left h1, decide_eq_true h2.symm]; rfl
theorem linv_n {i : Nat} {D : Dsk} {J : Jn} {A S : List Str} (h : LInv i D (some J) A S) (hi : i ≤ 100) : J.n ≤ 1048576 ∧ J.l.length ≤ 1048576 := by
  have := h.jn J rfl; omega
theorem linv_l {i : Nat} {D : Dsk} {J : Jn} {A S : List Str} (h : LInv i D (some J) A S) : J.l.length ≤ 300 * i := by
  have := h.jn J rfl; omega
theorem lasts_first : (openJ Dsk.init 3).2.2 ≠ none := by
  rcases lasts_open LInv.init rfl with ⟨J, h, _⟩ | ⟨_, _, _, h⟩
  · rw [h]; intro e; cases e
  · exact absurd ⟨rfl, rfl⟩ h
theorem lasts_init {oj : Option (Nat × Jn)} (hm : oj.map (·.2) = (openJ Dsk.init 3).2.2) : LInv 0 (openJ Dsk.init 3).1 (oj.map (·.2)) [] [] := by
  rcases lasts_open LInv.init rfl with ⟨J, h, _, _, h1, h2⟩ | ⟨_, _, _, h⟩
  · rw [hm, h]
    have e := List.prefix_nil.1 h1
    rw [e] at h2; exact h2
  · exact absurd ⟨rfl, rfl⟩ h
theorem end_calm (D : Dsk) (keep : List Int) : ((((D.lose 0).arm 0 []).crash keep).start).lost = 0 ∧ ((((D.lose 0).arm 0 []).crash keep).start).armed = 0 := by
  unfold Dsk.start Dsk.crash
  split <;> exact ⟨rfl, rfl⟩
abbrev OpenR (i : Nat) (D : Dsk) (A S : List Str) : Prop := (∃ J, (openJ D 3).2.2 = some J ∧ (openJ D 3).2.1 = 0 ∧ S <+: J.l ∧ J.l <+: A ∧ LInv i (openJ D 3).1 (some J) J.l J.l) ∨
    ((openJ D 3).2.2 = none ∧ ((openJ D 3).2.1 = 8 ∨ (openJ D 3).2.1 = 9) ∧ LInv i (openJ D 3).1 none A S ∧ ¬ (D.lost = 0 ∧ D.armed = 0))
theorem lasts_n {i : Nat} {D : Dsk} {A S : List Str} (h : OpenR i D A S) (hm : (none : Option (Nat × Jn)).map (·.2) = (openJ D 3).2.2) : ((openJ D 3).2.1 = 8 ∨ (openJ D 3).2.1 = 9) ∧ LInv i (openJ D 3).1 none A S ∧ ¬ (D.lost = 0 ∧ D.armed = 0) := by
  rcases h with ⟨J, h, _⟩ | ⟨_, h⟩
  · rw [h] at hm; cases hm
  · exact h
theorem lasts_s {i : Nat} {D : Dsk} {A S : List Str} {g : Nat} {J : Jn} (h : OpenR i D A S) (hm : (some (g, J)).map (·.2) = (openJ D 3).2.2) : (openJ D 3).2.1 = 0 ∧ S <+: J.l ∧ J.l <+: A ∧ LInv i (openJ D 3).1 (some J) J.l J.l := by
  rcases h with ⟨J', h, h1⟩ | ⟨h, _⟩
  · rw [h] at hm
    obtain rfl := Option.some.inj hm
    exact h1
  · rw [h] at hm; cases hm
theorem lasts_18 {er : Int} {i n : Nat} (h : er = 8 ∨ er = 9) (hi : i ≠ n) : ¬ ((!(decide (er = 8) || decide (er = 9))) || decide ((i : Int) = ((n : Nat) : Int))) = true := by
  rw [decide_eq_false (show ¬ (i : Int) = ((n : Nat) : Int) by omega)]
  rcases h with h | h <;> simp [h]
set_option maxRecDepth 20000 in
set_option maxHeartbeats 4000000 in
theorem begins_v_ {w : World} {l a : List Str} {A1 A2 : Option Addr} {c1 c2 : Nat} (f1 : StrsV w (.slice A1 l.length c1) l) (f2 : StrsV w (.slice A2 a.length c2) a) (hp : a <+: l) : Calls Tryd.prog 30 [.slice A1 l.length c1, .slice A2 a.length c2].toArray w (Fix (.bool true) w) := by
  refine calls_start Tryd.func30 rfl rfl ?_
  intro az Hz
  rw [Tryd.ntmps30] at Hz
  refine wp_seq_k fun K1 hK1 => ?_
  -- law.go:124
  refine wp_region_lit ?_
  refine L (r_as Hz rfl) Hz rfl ?_
  clear Hz az; intro az Hz
  refine hK1 _ _ ?_
  refine wp_seq_k fun K2 hK2 => ?_
  -- law.go:125
  refine wp_region_lit ?_
  refine L (r_mv Hz rfl) Hz rfl ?_
  clear Hz az; intro az Hz
  refine L (r_lenL Tryd.underlying30 Hz rfl) Hz rfl ?_
  clear Hz az; intro az Hz
  refine L (r_mv Hz rfl) Hz rfl ?_
  clear Hz az; intro az Hz
  refine L (r_lenL Tryd.underlying30 Hz rfl) Hz rfl ?_
  clear Hz az; intro az Hz
  refine L (r_leI Hz rfl rfl) Hz rfl ?_
  clear Hz az; intro az Hz
  refine L (r_mv Hz rfl) Hz rfl ?_
  clear Hz az; intro az Hz
  refine LG Hz rfl rfl gd_t (fun hb => r_mv Hz rfl) rfl ?_
  clear Hz az; intro az Hz
  refine LG Hz rfl rfl gd_t (fun hb => r_mv Hz rfl) rfl ?_
  clear Hz az; intro az Hz
  refine LG Hz rfl rfl gd_t (fun hb => r_lenL Tryd.underlying30 Hz (evg hb rfl)) rfl ?_
  clear Hz az; intro az Hz
  refine LG Hz rfl rfl gd_t (fun hb => r_mv Hz rfl) rfl ?_
  clear Hz az; intro az Hz
  refine LG Hz rfl rfl gd_t (fun hb => r_lenL Tryd.underlying30 Hz (evg hb rfl)) rfl ?_
  clear Hz az; intro az Hz
  refine LG Hz rfl rfl gd_t (fun hb => r_min Hz (evg hb rfl) (evg hb rfl)) rfl ?_
  clear Hz az; intro az Hz
  have hl3 : 0 + (List.take (min a.length l.length) l).length ≤ (l).length := by rw [List.length_take]; omega
  have hc4 : (List.take (min a.length l.length) l).length ≤ c1 := Nat.le_trans (by omega) (SliceOf.cap_ f1)
  have h5 := SliceOf.sub (lo := 0) (m := (List.take (min a.length l.length) l).length) f1 rfl hl3
  rw [List.drop_zero, Nat.sub_zero, show List.take (List.take (min a.length l.length) l).length l = List.take (min a.length l.length) l by rw [List.length_take, Nat.min_eq_left (by omega)]] at h5
  refine LG Hz rfl rfl gd_t (fun hb => r_slh (m := (List.take (min a.length l.length) l).length) (size := 1) Tryd.underlying30 Tryd.sizeOf9 Hz (evg hb rfl) (evg hb rfl) (by rw [List.length_take]; omega) hc4) rfl ?_
  clear Hz az; intro az Hz
  refine LG Hz rfl rfl gd_t (fun hb => r_mv Hz rfl) rfl ?_
  clear Hz az; intro az Hz
  refine LGV (v := .bool (decide ((List.take (min a.length l.length) l) = a))) Hz rfl rfl gd_t rfl (fun hb => (evs_c (evg hb rfl) (evs_c (evg hb rfl) rfl))) Tryd.call20 (fun hb => SameTexts_v h5 f2) rfl fun w6 o7 => ?_
  clear Hz az; intro az Hz
  refine L (r_and Hz rfl rfl rfl) Hz rfl ?_
  clear Hz az; intro az Hz
  refine L (r_as Hz rfl) Hz rfl ?_
  clear Hz az; intro az Hz
  refine hK2 _ _ ?_
  refine wp_ret ?_
  show bodyPost _ _ _ .ret _ _
  refine ret_of (vs := [.bool (((decide (((a.length : Nat) : Int) ≤ ((l.length : Nat) : Int))) && (decide ((List.take (min a.length l.length) l) = a))))]) Hz Tryd.results30 ⟨rfl, trivial⟩ ?_
  exact ⟨congrArg (fun b => Ending.returned (Value.bool b)) (pre_true hp), o7⟩

set_option maxRecDepth 20000 in
set_option maxHeartbeats 4000000 in
theorem lasts_v_ {w : World} (hG : Gr w) {l : List OpM} {A1 : Option Addr} {c1 : Nat} (f1 : OpsV w w (.slice A1 l.length c1) l) {kq : List Int} {A2 : Option Addr} {c2 : Nat} (f2 : IntsV w (.slice A2 kq.length c2) kq) : Calls Tryd.prog 5 [.slice A1 l.length c1, .slice A2 kq.length c2].toArray w (Fix (.bool true) w) := by
  refine calls_start Tryd.func5 rfl rfl ?_
  intro az Hz
  rw [Tryd.ntmps5] at Hz
  refine wp_seq_k fun K1 hK1 => ?_
  -- law.go:129
  refine wp_region_lit ?_
  refine L (r_as Hz rfl) Hz rfl ?_
  clear Hz az; intro az Hz
  refine hK1 _ _ ?_
  refine wp_seq_k fun K2 hK2 => ?_
  -- law.go:130
  refine wp_region_lit ?_
  have G3 := Gr.k hG (Only.refl NoF w)
  refine LCV (v := .bool (true)) Hz rfl rfl Tryd.call6 (small03_v G3) rfl fun w4 o5 => ?_
  clear Hz az; intro az Hz
  refine L (r_as Hz rfl) Hz rfl ?_
  clear Hz az; intro az Hz
  refine hK2 _ _ ?_
  refine wp_seq_k fun K6 hK6 => ?_
  refine wp_seq_k fun K7 hK7 => ?_
  -- law.go:131
  refine wp_region_lit ?_
  refine L (r_mv Hz rfl) Hz rfl ?_
  clear Hz az; intro az Hz
  have h8 := (SliceOf.kp f1 o5 (fun _ _ h => h) (fun _ _ _ _ h => h))
  refine LCE Hz rfl rfl Tryd.call21 (few03_v_ (ops_up h8 o5)) rfl fun b11 w9 hs12 o10 => ?_
  clear Hz az; intro az Hz
  refine L (r_not Hz rfl) Hz rfl ?_
  clear Hz az; intro az Hz
  refine L (r_mv Hz rfl) Hz rfl ?_
  clear Hz az; intro az Hz
  refine LG Hz rfl rfl gd_f (fun hb => r_mv Hz rfl) rfl ?_
  clear Hz az; intro az Hz
  refine LG Hz rfl rfl gd_f (fun hb => r_lenL Tryd.underlying45 Hz (evg hb rfl)) rfl ?_
  clear Hz az; intro az Hz
  refine LG Hz rfl rfl gd_f (fun hb => r_gtI Hz (evg hb rfl) rfl) rfl ?_
  clear Hz az; intro az Hz
  refine L (r_or Hz rfl rfl rfl) Hz rfl ?_
  clear Hz az; intro az Hz
  refine hK7 _ _ ?_
  refine br Hz rfl (fun hc13 => ?_) (fun hc13 => ?_)
  · -- if0
    have d14 := hc13
    refine wp_seq_k fun K15 hK15 => ?_
    -- law.go:132
    refine wp_region_lit ?_
    refine L (r_mv Hz rfl) Hz rfl ?_
    clear Hz az; intro az Hz
    refine L (r_as Hz rfl) Hz rfl ?_
    clear Hz az; intro az Hz
    refine hK15 _ _ ?_
    refine wp_ret ?_
    show bodyPost _ _ _ .ret _ _
    refine ret_of (vs := [.bool (true)]) Hz Tryd.results5 ⟨rfl, trivial⟩ ?_
    have O16 : Only NoF w w9 := (Only.trans' o5 o10)
    exact ⟨rfl, O16⟩
  · -- else0
    have q17 : b11 = true := (nt_f (or_f hc13).1)
    have S18 := hs12 q17
    have p19 := of_decide_eq_false (or_f hc13).2
    have hfo := S18; have hfl := hfo.1
    refine wp_skip ?_
    refine hK6 _ _ ?_
    refine wp_seq_k fun K20 hK20 => ?_
    -- law.go:134
    refine wp_region_lit ?_
    refine LC Hz rfl rfl Tryd.call7 (dNew_l _) rfl ?_
    rintro e w23 ⟨b21, F22, rfl, h24, o25, hge26⟩; refine ⟨_, rfl, ?_⟩
    have h27 : JO b21 Dsk.init none w23 F22 := h24
    clear Hz az; intro az Hz
    refine L (r_as Hz rfl) Hz rfl ?_
    clear Hz az; intro az Hz
    refine hK20 _ _ ?_
    refine wp_seq_k fun K28 hK28 => ?_
    refine wp_seq_k fun K29 hK29 => ?_
    -- law.go:135
    refine wp_region_lit ?_
    refine L (r_mv Hz rfl) Hz rfl ?_
    clear Hz az; intro az Hz
    refine L (r_eqP Tryd.underlying23 Hz rfl rfl) Hz rfl ?_
    clear Hz az; intro az Hz
    refine hK29 _ _ ?_
    refine br_false Hz rfl ?_
    refine wp_skip ?_
    refine hK28 _ _ ?_
    refine wp_seq_k fun K30 hK30 => ?_
    -- law.go:138
    refine wp_region_lit ?_
    refine L (r_mv Hz rfl) Hz rfl ?_
    clear Hz az; intro az Hz
    have O40 : Only NoF w w23 := (Only.trans' (Only.trans' o5 o10) o25)
    have G39 := Gr.k hG O40
    have O41 : Only NoF w w9 := (Only.trans' o5 o10)
    refine LC Hz rfl rfl Tryd.call9 (open_o G39 (show JO b21 Dsk.init none w23 F22 from h27) (fun k hk => Nat.le_trans (Nat.le_trans hG.1 (size_only O41)) (hge26 k (.inl hk)))) rfl ?_
    rintro e w32 ⟨oj31, hm34, rfl, F33, h35, o36, fm37, fr38⟩; refine ⟨_, rfl, ?_⟩
    have hge42 := ge_next hge26 (size_only o25) fm37 fr38
    clear Hz az; intro az Hz
    refine L (r_mv Hz rfl) Hz rfl ?_
    clear Hz az; intro az Hz
    refine L (r_ex Hz rfl rfl) Hz rfl ?_
    clear Hz az; intro az Hz
    refine L (r_ex Hz rfl rfl) Hz rfl ?_
    clear Hz az; intro az Hz
    refine L (r_as Hz rfl) Hz rfl ?_
    clear Hz az; intro az Hz
    refine L (r_as Hz rfl) Hz rfl ?_
    clear Hz az; intro az Hz
    refine hK30 _ _ ?_
    refine wp_seq_k fun K43 hK43 => ?_
    refine wp_seq_k fun K44 hK44 => ?_
    -- law.go:139
    refine wp_region_lit ?_
    refine L (r_mv Hz rfl) Hz rfl ?_
    clear Hz az; intro az Hz
    refine L (r_eqJ Tryd.underlying27 Hz rfl rfl) Hz rfl ?_
    clear Hz az; intro az Hz
    refine hK44 _ _ ?_
    refine br Hz rfl (fun hc45 => ?_) (fun hc45 => ?_)
    · -- if2
      have q46 : oj31.isSome = false := (nt_t hc45)
      have hj47 := isS_f q46; subst hj47
      have h48 : (DiskT b21 ((openJ Dsk.init 3).1)) w32 F33 := h35
      exact absurd hm34.symm lasts_first
    · -- else2
      have q49 : oj31.isSome = true := (nt_f hc45)
      obtain ⟨g50, J51, hj52⟩ := isS_t q49; subst hj52
      have h53 : (JT b21 g50 ((openJ Dsk.init 3).1) J51) w32 F33 := h35
      refine wp_skip ?_
      refine hK43 _ _ ?_
      refine wp_seq_k fun K54 hK54 => ?_
      -- law.go:142
      refine wp_region_lit ?_
      refine L (r_as Hz rfl) Hz rfl ?_
      clear Hz az; intro az Hz
      refine hK54 _ _ ?_
      refine wp_seq_k fun K55 hK55 => ?_
      -- law.go:143
      refine wp_region_lit ?_
      refine L (r_as Hz rfl) Hz rfl ?_
      clear Hz az; intro az Hz
      refine hK55 _ _ ?_
      refine wp_seq_k fun K56 hK56 => ?_
      refine wp_seq_k fun K57 hK57 => ?_
      -- law.go:144
      refine wp_region_lit ?_
      refine L (r_as Hz rfl) Hz rfl ?_
      clear Hz az; intro az Hz
      refine hK57 _ _ ?_
      refine wp_block ?_
      refine wp_loop_m (fun mz az W => ∃ i : Nat, ∃ D : Dsk, ∃ oj : Option (Nat × Jn), ∃ LA : List Str, ∃ Aa : Option Addr, ∃ ca : Nat, ∃ LS : List Str, ∃ As : Option Addr, ∃ cs : Nat, ∃ F : Foot, mz = l.length + 1 - i ∧ Fr 177 [(0, .slice A1 (l.length) c1), (1, .slice A2 (kq.length) c2), (5, .bool (true)), (6, .pointer (some ⟨b21, 0, none⟩)), (11, .int .i64 ((i : Int))), (7, jp oj), (9, .slice Aa (LA.length) ca), (10, .slice As (LS.length) cs)] az ∧ (i ≤ l.length + 1) ∧ (LInv i D (oj.map (·.2)) LA LS) ∧ (LA.length ≤ 300 * i) ∧ (∀ z ∈ LA, KStr.ok z) ∧ (∀ z ∈ LS, KStr.ok z) ∧ Only NoF w W ∧ W.ownsRow w.heap.size 9 1 (.slice Aa LA.length ca) LA.length (List.flatMap KStr.cells LA) ∧ W.ownsRow w.heap.size 9 1 (.slice As LS.length cs) LS.length (List.flatMap KStr.cells LS) ∧ JO b21 D oj W F ∧ (∀ k, F.all k → w.heap.size ≤ k) ∧ (∀ k, ownF (.slice Aa LA.length ca) k → ¬ F.all k) ∧ (∀ k, ownF (.slice As LS.length cs) k → ¬ F.all k)) ?_ ?_
      · -- start
        have O58 : Only NoF w w32 := (o_sg O40 o36 (size_only O41) (fun k h => hge26 k (.inl h)))
        exact ⟨_, 0, (openJ Dsk.init 3).1, some (g50, J51), [], none, 0, [], none, 0, F33, rfl, Hz.cut ⟨rfl, rfl, rfl, rfl, rfl, rfl, rfl, rfl, trivial⟩, (by omega), (lasts_init hm34), (Nat.le_refl _), (fun z hz => by cases hz), (fun z hz => by cases hz), O58, (World.ownsRow_nil _ _ _ _), (World.ownsRow_nil _ _ _ _), h53, (fun k hk => Nat.le_trans (size_only O41) (hge42 k hk)), (fun k hk => by cases hk), (fun k hk => by cases hk)⟩
      clear Hz az
      rintro mz az w59 ⟨i, D, oj, LA, Aa, ca, LS, As, cs, F, hm61, Hz, hi, hL, hla, okA, okS, o60, rA, rS, hT, hgeT, sA, sS⟩
      have hal : LA.length ≤ 7800 := by omega
      have hsl : LS.length ≤ 7800 := Nat.le_trans (List.IsPrefix.length_le (LInv.pre hL)) hal
      refine wp_seq_k fun K62 hK62 => ?_
      refine wp_seq_k fun K63 hK63 => ?_
      -- law.go:144
      refine wp_region_lit ?_
      refine L (r_mv Hz rfl) Hz rfl ?_
      clear Hz az; intro az Hz
      refine L (r_mv Hz rfl) Hz rfl ?_
      clear Hz az; intro az Hz
      refine L (r_lenL Tryd.underlying44 Hz rfl) Hz rfl ?_
      clear Hz az; intro az Hz
      refine L (r_leI Hz rfl rfl) Hz rfl ?_
      clear Hz az; intro az Hz
      refine hK63 _ _ ?_
      refine br Hz rfl (fun hc64 => ?_) (fun hc64 => ?_)
      · -- if3
        have p65 := of_decide_eq_true hc64
        refine wp_skip ?_
        refine hK62 _ _ ?_
        refine wp_seq_k fun K66 hK66 => ?_
        refine wp_block ?_
        refine wp_seq_k fun K67 hK67 => ?_
        -- law.go:145
        refine wp_region_lit ?_
        refine L (r_mv Hz rfl) Hz rfl ?_
        clear Hz az; intro az Hz
        refine L (r_bd (v := .agg #[.int .i64 (4), strV ([]), .int .i64 (0), .slice A2 (kq.length) c2]) (build_Op _ _ _ _) Hz rfl) Hz rfl ?_
        clear Hz az; intro az Hz
        refine LAl (v := .agg #[.int .i64 (0), strV ([]), .int .i64 (0), .slice none (0) 0]) Tryd.zeroValue49 Hz rfl rfl ?_
        clear Hz az; intro g68 w69 hg72 hl73 o70 B71 az Hz
        refine LSt (cs' := [.int .i64 (4), strV ([]), .int .i64 (0), .slice A2 (kq.length) c2]) Tryd.sizeOf49 Hz rfl rfl rfl rfl rfl ⟨rfl, rfl, rfl, rfl, trivial⟩ B71 rfl rfl fun w74 s75 B76 => ?_
        refine hK67 _ _ ?_
        refine wp_seq_k fun K77 hK77 => ?_
        refine wp_seq_k fun K78 hK78 => ?_
        -- law.go:146
        refine wp_region_lit ?_
        refine L (r_mv Hz rfl) Hz rfl ?_
        clear Hz az; intro az Hz
        refine L (r_mv Hz rfl) Hz rfl ?_
        clear Hz az; intro az Hz
        refine L (r_lenL Tryd.underlying44 Hz rfl) Hz rfl ?_
        clear Hz az; intro az Hz
        refine L (r_ltI Hz rfl rfl) Hz rfl ?_
        clear Hz az; intro az Hz
        refine hK78 _ _ ?_
        refine br Hz rfl (fun hc79 => ?_) (fun hc79 => ?_)
        · -- if4
          have p80 := of_decide_eq_true hc79
          -- law.go:147
          refine wp_region_lit ?_
          refine L (r_mv Hz rfl) Hz rfl ?_
          clear Hz az; intro az Hz
          refine L (r_mv Hz rfl) Hz rfl ?_
          clear Hz az; intro az Hz
          have hk81 : i < (l).length := by omega
          have O87 : Only NoF w w74 := (o_sg (Only.trans' o60 o70) s75 (size_only o60) (oneF_ge hg72))
          have h88 := (SliceOf.kp f1 O87 (fun _ _ h => h) (fun _ _ _ _ h => h))
          obtain ⟨m82, hm83, ok84, hA85⟩ := Row.el (KOp w) h88 hk81
          have E86 : ∀ W, Only NoF w74 W → CA W (eA A1 4 (i)) [.int .i64 (m82.k), strV (m82.s), .int .i64 (m82.n), .slice m82.A (m82.l.length) m82.c] := Row.ce (KOp w) h88 hm83 rfl
          refine L (r_ia (k := i) (size := 4) Tryd.underlying44 Tryd.sizeOf49 Hz rfl rfl rfl hk81 hA85) Hz rfl ?_
          clear Hz az; intro az Hz
          refine L (r_ldA Tryd.isAgg49 Tryd.sizeOf49 Hz rfl (E86 _ (Only.refl NoF w74)) rfl) Hz rfl ?_
          clear Hz az; intro az Hz
          refine LSt (cs' := [.int .i64 (m82.k), strV (m82.s), .int .i64 (m82.n), .slice m82.A (m82.l.length) m82.c]) Tryd.sizeOf49 Hz rfl rfl rfl rfl rfl ⟨rfl, rfl, rfl, rfl, trivial⟩ B76 rfl rfl fun w89 s90 B91 => ?_
          refine hK77 _ _ ?_
          refine wp_seq_k fun K92 hK92 => ?_
          -- law.go:152
          refine wp_region_lit ?_
          refine L (r_fa (m' := 0) Tryd.underlying49 rfl Tryd.sizeOf3 rfl Hz rfl rfl) Hz rfl ?_
          clear Hz az; intro az Hz
          refine L (r_ld Tryd.isAgg3 Hz rfl ((Blk.ca B91) 0 _ rfl)) Hz rfl ?_
          clear Hz az; intro az Hz
          refine hK92 _ _ ?_
          refine wp_block ?_
          refine wp_seq_k fun K93 hK93 => ?_
          -- law.go:153
          refine wp_region_lit ?_
          refine L (r_eqI Hz rfl rfl) Hz rfl ?_
          clear Hz az; intro az Hz
          refine L (r_as Hz rfl) Hz rfl ?_
          clear Hz az; intro az Hz
          refine hK93 _ _ ?_
          refine br Hz rfl (fun hc94 => ?_) (fun hc94 => ?_)
          · -- if5
            have p95 := of_decide_eq_true hc94
            refine wp_seq_k fun K96 hK96 => ?_
            refine wp_seq_k fun K97 hK97 => ?_
            -- law.go:154
            refine wp_region_lit ?_
            refine L (r_mv Hz rfl) Hz rfl ?_
            clear Hz az; intro az Hz
            refine L (r_eqJ Tryd.underlying27 Hz rfl rfl) Hz rfl ?_
            clear Hz az; intro az Hz
            refine hK97 _ _ ?_
            refine br Hz rfl (fun hc98 => ?_) (fun hc98 => ?_)
            · -- if6
              have q99 : oj.isSome = false := (nt_t hc98)
              have hj100 := isS_f q99; subst hj100
              have T102 : (JO b21 D none) w89 F := ((jo_good _ _ _).only ((jo_good _ _ _).only ((jo_good _ _ _).only hT o70 (fun _ _ h => h)) s75 (fun k hk (e : k = g68) => (fun h => absurd ((jo_good _ _ _).lt hT _ h) (Nat.not_lt.2 (Nat.le_trans (Nat.le_refl _) hg72))) (by rw [← e]; exact hk))) s90 (fun k hk (e : k = g68) => (fun h => absurd ((jo_good _ _ _).lt hT _ h) (Nat.not_lt.2 (Nat.le_trans (Nat.le_refl _) hg72))) (by rw [← e]; exact hk)))
              have h101 : (DiskT b21 D) w89 F := T102
              refine wp_exit ?_
              refine th_exit ?_
              refine ib_miss rfl ?_
              refine ib_hit ?_
              refine hK66 _ _ ?_
              -- law.go:144
              refine wp_region_lit ?_
              refine L (r_mv Hz rfl) Hz rfl ?_
              clear Hz az; intro az Hz
              have i103 : I64 (((i : Int) + 1)) := by unfold I64; omega
              refine L (r_addI (r := ((i : Int) + 1)) Hz rfl rfl rfl i103) Hz rfl ?_
              clear Hz az; intro az Hz
              refine L (r_as Hz rfl) Hz rfl ?_
              clear Hz az; intro az Hz
              have r104 := (ow_only (ow_only (ow_k rA o70) s75 (fun k hk => lt_F (oneF_ge hg72) (Nat.le_refl _) k (ownF_lt rA k hk))) s90 (fun k hk => lt_F (oneF_ge hg72) (Nat.le_refl _) k (ownF_lt rA k hk)))
              have r105 := (ow_only (ow_only (ow_k rS o70) s75 (fun k hk => lt_F (oneF_ge hg72) (Nat.le_refl _) k (ownF_lt rS k hk))) s90 (fun k hk => lt_F (oneF_ge hg72) (Nat.le_refl _) k (ownF_lt rS k hk)))
              have O106 : Only NoF w w89 := (o_sg O87 s90 (size_only o60) (oneF_ge hg72))
              exact ⟨_, (by omega), i + 1, D, none, LA, Aa, ca, LS, As, cs, F, rfl, Hz.cut ⟨rfl, rfl, rfl, rfl, rfl, rfl, rfl, rfl, trivial⟩, (by omega), (LInv.mono hL), (by omega), okA, okS, O106, (ow_low r104 (Nat.le_refl _)), (ow_low r105 (Nat.le_refl _)), T102, hgeT, sA, sS⟩
            · -- else6
              have q107 : oj.isSome = true := (nt_f hc98)
              obtain ⟨g108, J109, hj110⟩ := isS_t q107; subst hj110
              have T112 : (JO b21 D (some (g108, J109))) w89 F := ((jo_good _ _ _).only ((jo_good _ _ _).only ((jo_good _ _ _).only hT o70 (fun _ _ h => h)) s75 (fun k hk (e : k = g68) => (fun h => absurd ((jo_good _ _ _).lt hT _ h) (Nat.not_lt.2 (Nat.le_trans (Nat.le_refl _) hg72))) (by rw [← e]; exact hk))) s90 (fun k hk (e : k = g68) => (fun h => absurd ((jo_good _ _ _).lt hT _ h) (Nat.not_lt.2 (Nat.le_trans (Nat.le_refl _) hg72))) (by rw [← e]; exact hk)))
              have h111 : (JT b21 g108 D J109) w89 F := T112
              refine wp_skip ?_
              refine hK96 _ _ ?_
              refine wp_seq_k fun K113 hK113 => ?_
              -- law.go:157
              refine wp_region_lit ?_
              refine L (r_mv Hz rfl) Hz rfl ?_
              clear Hz az; intro az Hz
              have okl119 := okB (BothT.l (X := JB b21 g108 J109) h111)
              refine LC Hz rfl rfl Tryd.call10 (all_b (BothT.l (X := JB b21 g108 J109) h111) (Nat.le_trans (linv_n hL (by omega)).2 (by decide))) rfl ?_
              rintro e w114 ⟨A115, c116, rfl, r117, o118⟩; refine ⟨_, rfl, ?_⟩
              clear Hz az; intro az Hz
              refine L (r_as Hz rfl) Hz rfl ?_
              clear Hz az; intro az Hz
              refine hK113 _ _ ?_
              refine wp_seq_k fun K120 hK120 => ?_
              -- law.go:158
              refine wp_region_lit ?_
              refine L (r_mv Hz rfl) Hz rfl ?_
              clear Hz az; intro az Hz
              refine L (r_fa (m' := 1) Tryd.underlying49 rfl Tryd.sizeOf9 rfl Hz rfl rfl) Hz rfl ?_
              clear Hz az; intro az Hz
              have B121 := (Blk.k B91 o118)
              refine L (r_ld Tryd.isAgg9 Hz rfl ((Blk.ca B121) 1 _ rfl)) Hz rfl ?_
              clear Hz az; intro az Hz
              have O123 : Only NoF w w114 := (Only.trans' (o_sg O87 s90 (size_only o60) (oneF_ge hg72)) o118)
              have G122 := Gr.k hG O123
              have T124 : (JT b21 g108 D J109) w114 F := ((jt_good _ _ _ _).only h111 o118 (fun _ _ h => h))
              refine LC Hz rfl rfl Tryd.call23 (append_o (t := m82.s) G122 T124 (fun k hk => Nat.le_trans (Nat.le_trans hG.1 (Nat.le_refl _)) (hgeT k (.inl hk))) (by have := (hfo.2 _ (List.mem_of_getElem? hm83)).1; omega) (linv_n hL (by omega)).1 (linv_n hL (by omega)).2) rfl ?_
              rintro e w125 ⟨rfl, F126, h127, o128, fm129, fr130⟩; refine ⟨_, rfl, ?_⟩
              have hge131 := ge_next hgeT (size_only O123) fm129 fr130
              clear Hz az; intro az Hz
              rcases lasts_append (J := J109) hL (by omega) (hfo.2 _ (List.mem_of_getElem? hm83)).1 with ⟨he132, hl133, hn134⟩ | ⟨he132, hl133, hn134⟩ | ⟨he132, hl133, hn134⟩
              · -- a case
                rw [he132] at Hz
                refine L (r_as Hz rfl) Hz rfl ?_
                clear Hz az; intro az Hz
                refine hK120 _ _ ?_
                refine wp_seq_k fun K135 hK135 => ?_
                -- law.go:159
                refine wp_region_lit ?_
                refine L (r_mv Hz rfl) Hz rfl ?_
                clear Hz az; intro az Hz
                have okl141 := okB (BothT.l (X := JB b21 g108 ((Jn.append J109 D m82.s).2.1)) h127)
                refine LC Hz rfl rfl Tryd.call10 (all_b (BothT.l (X := JB b21 g108 ((Jn.append J109 D m82.s).2.1)) h127) (by rw [hl133]; exact Nat.le_trans (show (J109.l ++ [m82.s]).length ≤ 1048577 by rw [List.length_append, List.length_singleton]; have := (linv_n (J := J109) hL (by omega)).2; omega) (by decide))) rfl ?_
                rintro e w136 ⟨A137, c138, rfl, r139, o140⟩; refine ⟨_, rfl, ?_⟩
                clear Hz az; intro az Hz
                refine L (r_as Hz rfl) Hz rfl ?_
                clear Hz az; intro az Hz
                refine hK135 _ _ ?_
                refine wp_seq_k fun K142 hK142 => ?_
                refine wp_seq_k fun K143 hK143 => ?_
                -- law.go:160
                refine wp_region_lit ?_
                refine L (r_mv Hz rfl) Hz rfl ?_
                clear Hz az; intro az Hz
                refine L (r_eqRI Hz rfl rfl) Hz rfl ?_
                clear Hz az; intro az Hz
                refine L (r_mv Hz rfl) Hz rfl ?_
                clear Hz az; intro az Hz
                refine LF Hz rfl rfl rfl rfl ?_
                clear Hz az; intro az Hz
                refine LF Hz rfl rfl rfl rfl ?_
                clear Hz az; intro az Hz
                refine L (r_pick Hz rfl rfl rfl) Hz rfl ?_
                clear Hz az; intro az Hz
                refine hK143 _ _ ?_
                refine br_true Hz rfl ?_
                -- law.go:161
                refine reg_p NoF 1 [0, 2, 5, 6] (.rd 1 (.rd 3 (.rd 4 (.fork 0 (.fork 2 (.ex 5 (.ex 6 (.rd 7 .nil))) 5 (.ex 2 (.ex 6 (.rd 7 .nil)))) 5 (.ex 0 (.ex 2 (.ex 6 (.rd 7 .nil)))))))) (by kernel_rfl) (by kernel_rfl) (fun _ _ _ _ _ h => h) fun w144 o145 => ?_
                have B146 := (Blk.k (Blk.k (Blk.only B121 o128 (fun h => (fun h => absurd ((jo_good _ _ _).lt hT _ h) (Nat.not_lt.2 (Nat.le_trans (Nat.le_refl _) hg72))) (.inl h))) o140) o145)
                refine Pl.MSP (b := false) (by kernel_rfl) (fun W oW => r_mv Hz rfl) Hz rfl rfl ?_
                clear Hz az; intro az Hz
                refine Pl.MSP (b := false) (by kernel_rfl) (fun W oW => r_fa (m' := 1) Tryd.underlying49 rfl Tryd.sizeOf9 rfl Hz rfl rfl) Hz rfl rfl ?_
                clear Hz az; intro az Hz
                refine Pl.MSP (b := false) (by kernel_rfl) (fun W oW => r_ld Tryd.isAgg9 Hz rfl ((Blk.ca (Blk.k B146 oW)) 1 _ rfl)) Hz rfl rfl ?_
                clear Hz az; intro az Hz
                refine wpPl_fork ?_ ?_
                · -- 0 first
                  obtain ⟨A147, w148, hw, hA, r149, o150⟩ := made0 (w := w144) (e := 9) (size := 1)
                  refine Pl.MD (r_bs0 Tryd.underlying30 Tryd.sizeOf9) Hz rfl rfl ?_ ?_
                  · rw [← hw]; exact ⟨fun _ => o150, (Only.trans (Only.refl NoF w144) o150 (fun _ h => h.elim))⟩
                  rw [← hw, ← hA]; clear Hz az; intro az Hz
                  clear hw hA
                  refine wpPl_fork ?_ ?_
                  · -- 2 first
                    have r152 := (ow_k (ow_k (ow_k (ow_only (ow_k (ow_only (ow_only (ow_k rA o70) s75 (fun k hk => lt_F (oneF_ge hg72) (Nat.le_refl _) k (ownF_lt rA k hk))) s90 (fun k hk => lt_F (oneF_ge hg72) (Nat.le_refl _) k (ownF_lt rA k hk))) o118) o128 (fun k hk hF => sA k hk (.inl hF))) o140) o145) o150)
                    have h151 := SliceOf.pl (Row.own KStr r152 okA)
                    have hb160 : (List.length (([] : List Str)) + List.length (LA)) * 16 ≤ 140737488355328 := by (simp only [List.length_append, List.length_cons, List.length_nil]; omega)
                    obtain ⟨A153, c154, w155, hr156, r157, o158, al159⟩ := Row.app (P := Tryd.prog) (l := ([] : List Str)) (l2 := LA) KStr elemStr r149 h151 hb160 (by unfold maxLen; omega) (size_only o150)
                    simp only [List.nil_append, List.append_nil] at hr156 r157 al159
                    refine Pl.MD (r_app hr156 Hz rfl rfl) Hz rfl rfl ?_ ?_
                    · exact ⟨fun h => absurd h (by decide), (Only.trans (Only.trans (Only.refl NoF w144) o150 (fun _ h => h.elim)) o158 (fun k h => .inr (Nat.le_trans (Nat.le_refl _) ((ownF_ge r149) k h))))⟩
                    clear Hz az; intro az Hz
                    have ok161 : ∀ zq ∈ LA, KStr.ok zq := (Row.oks KStr h151)
                    have h162 := Row.own KStr r157 ok161
                    have hok163 : KStr.ok m82.s := by show List.length m82.s ≤ maxLen; have := (hfo.2 _ (List.mem_of_getElem? hm83)).1; unfold maxLen; omega
                    obtain ⟨A164, w165, hw, hA, r166, o167⟩ := Row.made (w := w155) KStr (e := 9) ([m82.s] : List Str) (by simp only [List.length_cons, List.length_nil]; unfold maxLen; omega)
                    refine Pl.MD (r_bs (z := strV ([])) (size := 1) (vs := [(0, strV (m82.s))]) (cs := List.flatMap KStr.cells [m82.s]) Tryd.underlying30 Tryd.sizeOf9 Tryd.zeroValue9 rfl (Fr.evalps Hz rfl) (by kernel_rfl)) Hz rfl rfl ?_ ?_
                    · rw [← hw]; exact ⟨fun h => absurd h (by decide), (Only.trans (Only.trans (Only.trans (Only.refl NoF w144) o150 (fun _ h => h.elim)) o158 (fun k h => .inr (Nat.le_trans (Nat.le_refl _) ((ownF_ge r149) k h)))) o167 (fun _ h => h.elim))⟩
                    rw [← hw, ← hA]; clear Hz az; intro az Hz
                    clear hw hA
                    have ok168 : ∀ zq ∈ ([m82.s] : List Str), KStr.ok zq := by intro zq hx; simp only [List.mem_cons, List.not_mem_nil, or_false] at hx; rcases hx with rfl <;> first | exact hok163
                    have r169 := (ow_k r157 o167)
                    have h170 := SliceOf.pl (Row.own KStr r166 ok168)
                    have hb178 : (List.length (LA) + List.length ([m82.s])) * 16 ≤ 140737488355328 := by (simp only [List.length_append, List.length_cons, List.length_nil]; omega)
                    have O179 : Only NoF w144 w165 := (Only.trans' (o_sg o150 o158 (Nat.le_refl _) (ownF_ge r149)) o167)
                    obtain ⟨A171, c172, w173, hr174, r175, o176, al177⟩ := Row.app (P := Tryd.prog) (l := LA) (l2 := [m82.s]) KStr elemStr r169 h170 hb178 (by unfold maxLen; omega) (size_only O179)
                    refine Pl.MD (r_app hr174 Hz rfl rfl) Hz rfl rfl ?_ ?_
                    · exact ⟨fun h => absurd h (by decide), (Only.trans (Only.trans (Only.trans (Only.trans (Only.refl NoF w144) o150 (fun _ h => h.elim)) o158 (fun k h => .inr (Nat.le_trans (Nat.le_refl _) ((ownF_ge r149) k h)))) o167 (fun _ h => h.elim)) o176 (fun k h => .inr (Nat.le_trans (Nat.le_refl _) ((ownF_ge r157) k h))))⟩
                    clear Hz az; intro az Hz
                    have ok180 : ∀ zq ∈ (LA ++ [m82.s]), KStr.ok zq := (fun x hx => (List.mem_append.1 hx).elim (ok161 x) ((Row.oks KStr h170) x))
                    have h181 := Row.own KStr r175 ok180
                    refine Pl.MSP (b := false) (by kernel_rfl) (fun W oW => r_as Hz rfl) Hz rfl rfl ?_
                    clear Hz az; intro az Hz
                    refine wpPl_nil ?_
                    refine hK142 _ _ ?_
                    refine wp_seq_k fun K182 hK182 => ?_
                    -- law.go:163
                    refine wp_region_lit ?_
                    refine L (r_mv Hz rfl) Hz rfl ?_
                    clear Hz az; intro az Hz
                    refine L (r_eqRI Hz rfl rfl) Hz rfl ?_
                    clear Hz az; intro az Hz
                    refine L (r_mv Hz rfl) Hz rfl ?_
                    clear Hz az; intro az Hz
                    refine LT Hz rfl rfl (r_mv Hz rfl) rfl ?_
                    clear Hz az; intro az Hz
                    refine LT Hz rfl rfl (r_mv Hz rfl) rfl ?_
                    clear Hz az; intro az Hz
                    refine LT Hz rfl rfl (r_fa (m' := 1) Tryd.underlying49 rfl Tryd.sizeOf9 rfl Hz rfl rfl) rfl ?_
                    clear Hz az; intro az Hz
                    have B183 := (Blk.only (Blk.k (Blk.only (Blk.k B146 o150) o158 (ow_nb r149 (Blk.k B146 o150) (by decide))) o167) o176 (ow_nb r169 (Blk.k (Blk.only (Blk.k B146 o150) o158 (ow_nb r149 (Blk.k B146 o150) (by decide))) o167) (by decide)))
                    refine LT Hz rfl rfl (r_ld Tryd.isAgg9 Hz rfl ((Blk.ca B183) 1 _ rfl)) rfl ?_
                    clear Hz az; intro az Hz
                    have hok184 : KStr.ok m82.s := by show List.length m82.s ≤ maxLen; have := (hfo.2 _ (List.mem_of_getElem? hm83)).1; unfold maxLen; omega
                    obtain ⟨A185, w186, hw, hA, r187, o188⟩ := Row.made (w := w173) KStr (e := 9) ([m82.s] : List Str) (by simp only [List.length_cons, List.length_nil]; unfold maxLen; omega)
                    refine LT Hz rfl rfl (r_bs (z := strV ([])) (size := 1) (vs := [(0, strV (m82.s))]) (cs := List.flatMap KStr.cells [m82.s]) Tryd.underlying30 Tryd.sizeOf9 Tryd.zeroValue9 rfl (Fr.evalps Hz rfl) (by kernel_rfl)) rfl ?_
                    rw [← hw, ← hA]; clear Hz az; intro az Hz
                    clear hw hA
                    have ok189 : ∀ zq ∈ ([m82.s] : List Str), KStr.ok zq := by intro zq hx; simp only [List.mem_cons, List.not_mem_nil, or_false] at hx; rcases hx with rfl <;> first | exact hok184
                    have O190 : Only NoF w59 w89 := (o_sg (o_sg o70 s75 (Nat.le_refl _) (oneF_ge hg72)) s90 (Nat.le_refl _) (oneF_ge hg72))
                    have O191 := (Only.trans (Only.trans (Only.trans (Only.refl (fun _ => True) w114) o128 (fun _ _ => .inl trivial)) o140 (fun _ _ => .inl trivial)) o145 (fun _ _ => .inl trivial))
                    have r192 := (ow_k (ow_only (ow_k (ow_only (ow_k (ow_k (ow_k (ow_only r117 o128 (fun k hk hF => (fun k hk h => absurd ((jo_good _ _ _).lt hT _ h) (Nat.not_lt.2 (Nat.le_trans (size_only O190) (ownF_ge r117 k hk)))) k hk (.inl hF))) o140) o145) o150) o158 (fun k hk => lt_F (ownF_ge r149) (size_only O191) k (ownF_lt r117 k hk))) o167) o176 (fun k hk => lt_F (ownF_ge r157) (size_only O191) k (ownF_lt r117 k hk))) o188)
                    have h193 := SliceOf.pl (Row.own KStr r187 ok189)
                    have hb201 : (List.length (J109.l) + List.length ([m82.s])) * 16 ≤ 140737488355328 := by (have := (linv_n (J := J109) hL (by omega)).2; simp only [List.length_append, List.length_cons, List.length_nil]; omega)
                    have O202 := (Only.trans (Only.trans (Only.trans (Only.trans (Only.trans (Only.trans (Only.trans (Only.trans (Only.trans (Only.refl (fun _ => True) w89) o118 (fun _ _ => .inl trivial)) o128 (fun _ _ => .inl trivial)) o140 (fun _ _ => .inl trivial)) o145 (fun _ _ => .inl trivial)) o150 (fun _ _ => .inl trivial)) o158 (fun _ _ => .inl trivial)) o167 (fun _ _ => .inl trivial)) o176 (fun _ _ => .inl trivial)) o188 (fun _ _ => .inl trivial))
                    obtain ⟨A194, c195, w196, hr197, r198, o199, al200⟩ := Row.app (P := Tryd.prog) (l := J109.l) (l2 := [m82.s]) KStr elemStr r192 h193 hb201 (by unfold maxLen; omega) (size_only O202)
                    refine LT Hz rfl rfl (r_app hr197 Hz rfl rfl) rfl ?_
                    clear Hz az; intro az Hz
                    have ok203 : ∀ zq ∈ (J109.l ++ [m82.s]), KStr.ok zq := (fun x hx => (List.mem_append.1 hx).elim (okl119 x) ((Row.oks KStr h193) x))
                    have h204 := Row.own KStr r198 ok203
                    have O206 := (Only.trans (Only.refl (fun _ => True) w114) o128 (fun _ _ => .inl trivial))
                    have r207 := (ow_only (ow_k (ow_only (ow_k (ow_only (ow_k (ow_k r139 o145) o150) o158 (fun k hk => lt_F (ownF_ge r149) (size_only o145) k (ownF_lt r139 k hk))) o167) o176 (fun k hk => lt_F (ownF_ge r157) (size_only o145) k (ownF_lt r139 k hk))) o188) o199 (fun k hk => ge_F (ownF_lt r117) (size_only O206) k (ownF_ge (ow_k (ow_only (ow_k (ow_only (ow_k (ow_k r139 o145) o150) o158 (fun k hk => lt_F (ownF_ge r149) (size_only o145) k (ownF_lt r139 k hk))) o167) o176 (fun k hk => lt_F (ownF_ge r157) (size_only o145) k (ownF_lt r139 k hk))) o188) k hk)))
                    have h205 := SliceOf.pl (Row.own KStr r207 okl141)
                    have h208 := SliceOf.pl (Row.own KStr r198 ok203)
                    refine LGV (v := .bool (true)) Hz rfl rfl gd_t rfl (fun hb => rfl) Tryd.call20 (fun hb => fix_eq (congrArg Value.bool (decide_eq_true hl133)) (SameTexts_v h205 h208)) rfl fun w209 o210 => ?_
                    clear Hz az; intro az Hz
                    refine LT Hz rfl rfl (r_not Hz rfl) rfl ?_
                    clear Hz az; intro az Hz
                    refine L (r_pick Hz rfl rfl rfl) Hz rfl ?_
                    clear Hz az; intro az Hz
                    refine L (r_mv Hz rfl) Hz rfl ?_
                    clear Hz az; intro az Hz
                    refine LT Hz rfl rfl (r_mv Hz rfl) rfl ?_
                    clear Hz az; intro az Hz
                    refine LT Hz rfl rfl (r_neRI Hz rfl rfl) rfl ?_
                    clear Hz az; intro az Hz
                    refine LT Hz rfl rfl (r_mv Hz rfl) rfl ?_
                    clear Hz az; intro az Hz
                    refine LF Hz rfl rfl rfl rfl ?_
                    clear Hz az; intro az Hz
                    refine LF Hz rfl rfl rfl rfl ?_
                    clear Hz az; intro az Hz
                    refine LF Hz rfl rfl rfl rfl ?_
                    clear Hz az; intro az Hz
                    refine LF Hz rfl rfl rfl rfl ?_
                    clear Hz az; intro az Hz
                    refine LT Hz rfl rfl (r_pick Hz rfl rfl rfl) rfl ?_
                    clear Hz az; intro az Hz
                    refine L (r_pick Hz rfl rfl rfl) Hz rfl ?_
                    clear Hz az; intro az Hz
                    refine hK182 _ _ ?_
                    refine br_false Hz rfl ?_
                    refine wp_skip ?_
                    refine hK66 _ _ ?_
                    -- law.go:144
                    refine wp_region_lit ?_
                    refine L (r_mv Hz rfl) Hz rfl ?_
                    clear Hz az; intro az Hz
                    have i211 : I64 (((i : Int) + 1)) := by unfold I64; omega
                    refine L (r_addI (r := ((i : Int) + 1)) Hz rfl rfl rfl i211) Hz rfl ?_
                    clear Hz az; intro az Hz
                    refine L (r_as Hz rfl) Hz rfl ?_
                    clear Hz az; intro az Hz
                    have r212 := (ow_k (ow_only (ow_k r175 o188) o199 (fun k hk => ge_F (ownF_lt r117) (size_only O191) k (ownF_ge (ow_k r175 o188) k hk))) o210)
                    have O213 : Only NoF w w144 := (Only.trans' (Only.trans' (o_sg O123 o128 (Nat.le_refl _) (fun k h => hgeT k (.inl h))) o140) o145)
                    have O214 : Only NoF w125 w144 := (Only.trans' o140 o145)
                    have O215 := (Only.trans (Only.trans (Only.trans (Only.trans (Only.trans (Only.trans (Only.trans (Only.refl (fun _ => True) w59) o70 (fun _ _ => .inl trivial)) s75 (fun _ _ => .inl trivial)) s90 (fun _ _ => .inl trivial)) o118 (fun _ _ => .inl trivial)) o128 (fun _ _ => .inl trivial)) o140 (fun _ _ => .inl trivial)) o145 (fun _ _ => .inl trivial))
                    have r216 := (ow_k (ow_only (ow_k (ow_only (ow_k (ow_only (ow_k (ow_k (ow_k (ow_only (ow_k (ow_only (ow_only (ow_k rS o70) s75 (fun k hk => lt_F (oneF_ge hg72) (Nat.le_refl _) k (ownF_lt rS k hk))) s90 (fun k hk => lt_F (oneF_ge hg72) (Nat.le_refl _) k (ownF_lt rS k hk))) o118) o128 (fun k hk hF => sS k hk (.inl hF))) o140) o145) o150) o158 (fun k hk => lt_F (ownF_ge r149) (size_only O215) k (ownF_lt rS k hk))) o167) o176 (fun k hk => lt_F (ownF_ge r157) (size_only O215) k (ownF_lt rS k hk))) o188) o199 (fun k hk => lt_F (ownF_ge r117) (size_only O190) k (ownF_lt rS k hk))) o210)
                    have O218 : Only NoF w59 w114 := (Only.trans' O190 o118)
                    have sp217 : ∀ k, ownF (.slice As (LS.length) cs) k → ¬ Foot.all F126 k := sep_nexto sS (fun k hk => Nat.lt_of_lt_of_le (ownF_lt rS k hk) (size_only O218)) fm129 fr130
                    have O219 : Only NoF w w89 := (o_sg O87 s90 (size_only o60) (oneF_ge hg72))
                    have O220 : Only NoF w w209 := (Only.trans' (o_sg (Only.trans' (o_sg (Only.trans' (o_sg (Only.trans' O213 o150) o158 (size_only O213) (ownF_ge r149)) o167) o176 (size_only O213) (ownF_ge r157)) o188) o199 (size_only O219) (ownF_ge r117)) o210)
                    have O221 : Only NoF w125 w148 := (Only.trans' O214 o150)
                    have sp222 : ∀ k, ownF (.slice A115 ((J109.l).length) c116) k → ¬ Foot.all F126 k := sep_nexto (fun k hk h => absurd ((jo_good _ _ _).lt hT _ h) (Nat.not_lt.2 (Nat.le_trans (size_only O190) (ownF_ge r117 k hk)))) (fun k hk => Nat.lt_of_lt_of_le (ownF_lt r117 k hk) (Nat.le_refl _)) fm129 fr130
                    have T223 : (JT b21 g108 (Jn.append J109 D m82.s).1 (Jn.append J109 D m82.s).2.1) w209 F126 := ((jt_good _ _ _ _).only ((jt_good _ _ _ _).only ((jt_good _ _ _ _).only ((jt_good _ _ _ _).only ((jt_good _ _ _ _).only ((jt_good _ _ _ _).only ((jt_good _ _ _ _).only h127 O221 (fun _ _ h => h)) o158 (fun k hk e => (fun k hk h => absurd ((jt_good _ _ _ _).lt h127 _ h) (Nat.not_lt.2 (Nat.le_trans (size_only O214) (ownF_ge r149 k hk)))) k e hk)) o167 (fun _ _ h => h)) o176 (fun k hk e => (fun k hk h => absurd ((jt_good _ _ _ _).lt h127 _ h) (Nat.not_lt.2 (Nat.le_trans (size_only O214) (ownF_ge r157 k hk)))) k e hk)) o188 (fun _ _ h => h)) o199 (fun k hk e => sp222 k e hk)) o210 (fun _ _ h => h))
                    exact ⟨_, (by omega), i + 1, (Jn.append J109 D m82.s).1, some (g108, (Jn.append J109 D m82.s).2.1), (LA ++ [m82.s]), A171, c172, LS, As, cs, F126, rfl, Hz.cut ⟨rfl, rfl, rfl, rfl, rfl, rfl, rfl, rfl, trivial⟩, (by omega), hn134, (by rw [List.length_append, List.length_singleton]; omega), ok180, okS, O220, (ow_low r212 ((size_only O213))), (ow_low r216 (Nat.le_refl _)), T223, hge131, (fun k hk h => absurd ((jt_good _ _ _ _).lt h127 _ h) (Nat.not_lt.2 (Nat.le_trans (size_only O214) (ownF_ge r175 k hk)))), sp217⟩
                  · -- 5 first
                    have hok224 : KStr.ok m82.s := by show List.length m82.s ≤ maxLen; have := (hfo.2 _ (List.mem_of_getElem? hm83)).1; unfold maxLen; omega
                    obtain ⟨A225, w226, hw, hA, r227, o228⟩ := Row.made (w := w148) KStr (e := 9) ([m82.s] : List Str) (by simp only [List.length_cons, List.length_nil]; unfold maxLen; omega)
                    refine Pl.MD (r_bs (z := strV ([])) (size := 1) (vs := [(0, strV (m82.s))]) (cs := List.flatMap KStr.cells [m82.s]) Tryd.underlying30 Tryd.sizeOf9 Tryd.zeroValue9 rfl (Fr.evalps Hz rfl) (by kernel_rfl)) Hz rfl rfl ?_ ?_
                    · rw [← hw]; exact ⟨fun h => absurd h (by decide), (Only.trans (Only.trans (Only.refl NoF w144) o150 (fun _ h => h.elim)) o228 (fun _ h => h.elim))⟩
                    rw [← hw, ← hA]; clear Hz az; intro az Hz
                    clear hw hA
                    have ok229 : ∀ zq ∈ ([m82.s] : List Str), KStr.ok zq := by intro zq hx; simp only [List.mem_cons, List.not_mem_nil, or_false] at hx; rcases hx with rfl <;> first | exact hok224
                    have r230 := (ow_k r149 o228)
                    have r232 := (ow_k (ow_k (ow_k (ow_k (ow_only (ow_k (ow_only (ow_only (ow_k rA o70) s75 (fun k hk => lt_F (oneF_ge hg72) (Nat.le_refl _) k (ownF_lt rA k hk))) s90 (fun k hk => lt_F (oneF_ge hg72) (Nat.le_refl _) k (ownF_lt rA k hk))) o118) o128 (fun k hk hF => sA k hk (.inl hF))) o140) o145) o150) o228)
                    have h231 := SliceOf.pl (Row.own KStr r232 okA)
                    have hb240 : (List.length (([] : List Str)) + List.length (LA)) * 16 ≤ 140737488355328 := by (simp only [List.length_append, List.length_cons, List.length_nil]; omega)
                    have O241 : Only NoF w144 w226 := (Only.trans' o150 o228)
                    obtain ⟨A233, c234, w235, hr236, r237, o238, al239⟩ := Row.app (P := Tryd.prog) (l := ([] : List Str)) (l2 := LA) KStr elemStr r230 h231 hb240 (by unfold maxLen; omega) (size_only O241)
                    simp only [List.nil_append, List.append_nil] at hr236 r237 al239
                    refine Pl.MD (r_app hr236 Hz rfl rfl) Hz rfl rfl ?_ ?_
                    · exact ⟨fun h => absurd h (by decide), (Only.trans (Only.trans (Only.trans (Only.refl NoF w144) o150 (fun _ h => h.elim)) o228 (fun _ h => h.elim)) o238 (fun k h => .inr (Nat.le_trans (Nat.le_refl _) ((ownF_ge r149) k h))))⟩
                    clear Hz az; intro az Hz
                    have ok242 : ∀ zq ∈ LA, KStr.ok zq := (Row.oks KStr h231)
                    have h243 := Row.own KStr r237 ok242
                    have r245 := (ow_only r227 o238 (fun k hk => ge_F (ownF_lt r149) (Nat.le_refl _) k (ownF_ge r227 k hk)))
                    have h244 := SliceOf.pl (Row.own KStr r245 ok229)
                    have hb253 : (List.length (LA) + List.length ([m82.s])) * 16 ≤ 140737488355328 := by (simp only [List.length_append, List.length_cons, List.length_nil]; omega)
                    have O254 : Only NoF w144 w235 := (o_sg O241 o238 (Nat.le_refl _) (ownF_ge r149))
                    obtain ⟨A246, c247, w248, hr249, r250, o251, al252⟩ := Row.app (P := Tryd.prog) (l := LA) (l2 := [m82.s]) KStr elemStr r237 h244 hb253 (by unfold maxLen; omega) (size_only O254)
                    refine Pl.MD (r_app hr249 Hz rfl rfl) Hz rfl rfl ?_ ?_
                    · exact ⟨fun h => absurd h (by decide), (Only.trans (Only.trans (Only.trans (Only.trans (Only.refl NoF w144) o150 (fun _ h => h.elim)) o228 (fun _ h => h.elim)) o238 (fun k h => .inr (Nat.le_trans (Nat.le_refl _) ((ownF_ge r149) k h)))) o251 (fun k h => .inr (Nat.le_trans (Nat.le_refl _) ((ownF_ge r237) k h))))⟩
                    clear Hz az; intro az Hz
                    have ok255 : ∀ zq ∈ (LA ++ [m82.s]), KStr.ok zq := (fun x hx => (List.mem_append.1 hx).elim (ok242 x) ((Row.oks KStr h244) x))
                    have h256 := Row.own KStr r250 ok255
                    refine Pl.MSP (b := false) (by kernel_rfl) (fun W oW => r_as Hz rfl) Hz rfl rfl ?_
                    clear Hz az; intro az Hz
                    refine wpPl_nil ?_
                    refine hK142 _ _ ?_
                    refine wp_seq_k fun K257 hK257 => ?_
                    -- law.go:163
                    refine wp_region_lit ?_
                    refine L (r_mv Hz rfl) Hz rfl ?_
                    clear Hz az; intro az Hz
                    refine L (r_eqRI Hz rfl rfl) Hz rfl ?_
                    clear Hz az; intro az Hz
                    refine L (r_mv Hz rfl) Hz rfl ?_
                    clear Hz az; intro az Hz
                    refine LT Hz rfl rfl (r_mv Hz rfl) rfl ?_
                    clear Hz az; intro az Hz
                    refine LT Hz rfl rfl (r_mv Hz rfl) rfl ?_
                    clear Hz az; intro az Hz
                    refine LT Hz rfl rfl (r_fa (m' := 1) Tryd.underlying49 rfl Tryd.sizeOf9 rfl Hz rfl rfl) rfl ?_
                    clear Hz az; intro az Hz
                    have B258 := (Blk.only (Blk.only (Blk.k (Blk.k B146 o150) o228) o238 (ow_nb r230 (Blk.k (Blk.k B146 o150) o228) (by decide))) o251 (ow_nb r237 (Blk.only (Blk.k (Blk.k B146 o150) o228) o238 (ow_nb r230 (Blk.k (Blk.k B146 o150) o228) (by decide))) (by decide)))
                    refine LT Hz rfl rfl (r_ld Tryd.isAgg9 Hz rfl ((Blk.ca B258) 1 _ rfl)) rfl ?_
                    clear Hz az; intro az Hz
                    have hok259 : KStr.ok m82.s := by show List.length m82.s ≤ maxLen; have := (hfo.2 _ (List.mem_of_getElem? hm83)).1; unfold maxLen; omega
                    obtain ⟨A260, w261, hw, hA, r262, o263⟩ := Row.made (w := w248) KStr (e := 9) ([m82.s] : List Str) (by simp only [List.length_cons, List.length_nil]; unfold maxLen; omega)
                    refine LT Hz rfl rfl (r_bs (z := strV ([])) (size := 1) (vs := [(0, strV (m82.s))]) (cs := List.flatMap KStr.cells [m82.s]) Tryd.underlying30 Tryd.sizeOf9 Tryd.zeroValue9 rfl (Fr.evalps Hz rfl) (by kernel_rfl)) rfl ?_
                    rw [← hw, ← hA]; clear Hz az; intro az Hz
                    clear hw hA
                    have ok264 : ∀ zq ∈ ([m82.s] : List Str), KStr.ok zq := by intro zq hx; simp only [List.mem_cons, List.not_mem_nil, or_false] at hx; rcases hx with rfl <;> first | exact hok259
                    have O265 : Only NoF w59 w89 := (o_sg (o_sg o70 s75 (Nat.le_refl _) (oneF_ge hg72)) s90 (Nat.le_refl _) (oneF_ge hg72))
                    have O266 := (Only.trans (Only.trans (Only.trans (Only.refl (fun _ => True) w114) o128 (fun _ _ => .inl trivial)) o140 (fun _ _ => .inl trivial)) o145 (fun _ _ => .inl trivial))
                    have r267 := (ow_k (ow_only (ow_only (ow_k (ow_k (ow_k (ow_k (ow_only r117 o128 (fun k hk hF => (fun k hk h => absurd ((jo_good _ _ _).lt hT _ h) (Nat.not_lt.2 (Nat.le_trans (size_only O265) (ownF_ge r117 k hk)))) k hk (.inl hF))) o140) o145) o150) o228) o238 (fun k hk => lt_F (ownF_ge r149) (size_only O266) k (ownF_lt r117 k hk))) o251 (fun k hk => lt_F (ownF_ge r237) (size_only O266) k (ownF_lt r117 k hk))) o263)
                    have h268 := SliceOf.pl (Row.own KStr r262 ok264)
                    have hb276 : (List.length (J109.l) + List.length ([m82.s])) * 16 ≤ 140737488355328 := by (have := (linv_n (J := J109) hL (by omega)).2; simp only [List.length_append, List.length_cons, List.length_nil]; omega)
                    have O277 := (Only.trans (Only.trans (Only.trans (Only.trans (Only.trans (Only.trans (Only.trans (Only.trans (Only.trans (Only.refl (fun _ => True) w89) o118 (fun _ _ => .inl trivial)) o128 (fun _ _ => .inl trivial)) o140 (fun _ _ => .inl trivial)) o145 (fun _ _ => .inl trivial)) o150 (fun _ _ => .inl trivial)) o228 (fun _ _ => .inl trivial)) o238 (fun _ _ => .inl trivial)) o251 (fun _ _ => .inl trivial)) o263 (fun _ _ => .inl trivial))
                    obtain ⟨A269, c270, w271, hr272, r273, o274, al275⟩ := Row.app (P := Tryd.prog) (l := J109.l) (l2 := [m82.s]) KStr elemStr r267 h268 hb276 (by unfold maxLen; omega) (size_only O277)
                    refine LT Hz rfl rfl (r_app hr272 Hz rfl rfl) rfl ?_
                    clear Hz az; intro az Hz
                    have ok278 : ∀ zq ∈ (J109.l ++ [m82.s]), KStr.ok zq := (fun x hx => (List.mem_append.1 hx).elim (okl119 x) ((Row.oks KStr h268) x))
                    have h279 := Row.own KStr r273 ok278
                    have O281 := (Only.trans (Only.refl (fun _ => True) w114) o128 (fun _ _ => .inl trivial))
                    have r282 := (ow_only (ow_k (ow_only (ow_only (ow_k (ow_k (ow_k r139 o145) o150) o228) o238 (fun k hk => lt_F (ownF_ge r149) (size_only o145) k (ownF_lt r139 k hk))) o251 (fun k hk => lt_F (ownF_ge r237) (size_only o145) k (ownF_lt r139 k hk))) o263) o274 (fun k hk => ge_F (ownF_lt r117) (size_only O281) k (ownF_ge (ow_k (ow_only (ow_only (ow_k (ow_k (ow_k r139 o145) o150) o228) o238 (fun k hk => lt_F (ownF_ge r149) (size_only o145) k (ownF_lt r139 k hk))) o251 (fun k hk => lt_F (ownF_ge r237) (size_only o145) k (ownF_lt r139 k hk))) o263) k hk)))
                    have h280 := SliceOf.pl (Row.own KStr r282 okl141)
                    have h283 := SliceOf.pl (Row.own KStr r273 ok278)
                    refine LGV (v := .bool (true)) Hz rfl rfl gd_t rfl (fun hb => rfl) Tryd.call20 (fun hb => fix_eq (congrArg Value.bool (decide_eq_true hl133)) (SameTexts_v h280 h283)) rfl fun w284 o285 => ?_
                    clear Hz az; intro az Hz
                    refine LT Hz rfl rfl (r_not Hz rfl) rfl ?_
                    clear Hz az; intro az Hz
                    refine L (r_pick Hz rfl rfl rfl) Hz rfl ?_
                    clear Hz az; intro az Hz
                    refine L (r_mv Hz rfl) Hz rfl ?_
                    clear Hz az; intro az Hz
                    refine LT Hz rfl rfl (r_mv Hz rfl) rfl ?_
                    clear Hz az; intro az Hz
                    refine LT Hz rfl rfl (r_neRI Hz rfl rfl) rfl ?_
                    clear Hz az; intro az Hz
                    refine LT Hz rfl rfl (r_mv Hz rfl) rfl ?_
                    clear Hz az; intro az Hz
                    refine LF Hz rfl rfl rfl rfl ?_
                    clear Hz az; intro az Hz
                    refine LF Hz rfl rfl rfl rfl ?_
                    clear Hz az; intro az Hz
                    refine LF Hz rfl rfl rfl rfl ?_
                    clear Hz az; intro az Hz
                    refine LF Hz rfl rfl rfl rfl ?_
                    clear Hz az; intro az Hz
                    refine LT Hz rfl rfl (r_pick Hz rfl rfl rfl) rfl ?_
                    clear Hz az; intro az Hz
                    refine L (r_pick Hz rfl rfl rfl) Hz rfl ?_
                    clear Hz az; intro az Hz
                    refine hK257 _ _ ?_
                    refine br_false Hz rfl ?_
                    refine wp_skip ?_
                    refine hK66 _ _ ?_
                    -- law.go:144
                    refine wp_region_lit ?_
                    refine L (r_mv Hz rfl) Hz rfl ?_
                    clear Hz az; intro az Hz
                    have i286 : I64 (((i : Int) + 1)) := by unfold I64; omega
                    refine L (r_addI (r := ((i : Int) + 1)) Hz rfl rfl rfl i286) Hz rfl ?_
                    clear Hz az; intro az Hz
                    refine L (r_as Hz rfl) Hz rfl ?_
                    clear Hz az; intro az Hz
                    have r287 := (ow_k (ow_only (ow_k r250 o263) o274 (fun k hk => ge_F (ownF_lt r117) (size_only O266) k (ownF_ge (ow_k r250 o263) k hk))) o285)
                    have O288 : Only NoF w w144 := (Only.trans' (Only.trans' (o_sg O123 o128 (Nat.le_refl _) (fun k h => hgeT k (.inl h))) o140) o145)
                    have O289 : Only NoF w125 w144 := (Only.trans' o140 o145)
                    have O290 := (Only.trans (Only.trans (Only.trans (Only.trans (Only.trans (Only.trans (Only.trans (Only.refl (fun _ => True) w59) o70 (fun _ _ => .inl trivial)) s75 (fun _ _ => .inl trivial)) s90 (fun _ _ => .inl trivial)) o118 (fun _ _ => .inl trivial)) o128 (fun _ _ => .inl trivial)) o140 (fun _ _ => .inl trivial)) o145 (fun _ _ => .inl trivial))
                    have r291 := (ow_k (ow_only (ow_k (ow_only (ow_only (ow_k (ow_k (ow_k (ow_k (ow_only (ow_k (ow_only (ow_only (ow_k rS o70) s75 (fun k hk => lt_F (oneF_ge hg72) (Nat.le_refl _) k (ownF_lt rS k hk))) s90 (fun k hk => lt_F (oneF_ge hg72) (Nat.le_refl _) k (ownF_lt rS k hk))) o118) o128 (fun k hk hF => sS k hk (.inl hF))) o140) o145) o150) o228) o238 (fun k hk => lt_F (ownF_ge r149) (size_only O290) k (ownF_lt rS k hk))) o251 (fun k hk => lt_F (ownF_ge r237) (size_only O290) k (ownF_lt rS k hk))) o263) o274 (fun k hk => lt_F (ownF_ge r117) (size_only O265) k (ownF_lt rS k hk))) o285)
                    have O293 : Only NoF w59 w114 := (Only.trans' O265 o118)
                    have sp292 : ∀ k, ownF (.slice As (LS.length) cs) k → ¬ Foot.all F126 k := sep_nexto sS (fun k hk => Nat.lt_of_lt_of_le (ownF_lt rS k hk) (size_only O293)) fm129 fr130
                    have O294 : Only NoF w w89 := (o_sg O87 s90 (size_only o60) (oneF_ge hg72))
                    have O295 : Only NoF w w284 := (Only.trans' (o_sg (Only.trans' (o_sg (o_sg (Only.trans' (Only.trans' O288 o150) o228) o238 (size_only O288) (ownF_ge r149)) o251 (size_only O288) (ownF_ge r237)) o263) o274 (size_only O294) (ownF_ge r117)) o285)
                    have O296 : Only NoF w125 w226 := (Only.trans' (Only.trans' O289 o150) o228)
                    have sp297 : ∀ k, ownF (.slice A115 ((J109.l).length) c116) k → ¬ Foot.all F126 k := sep_nexto (fun k hk h => absurd ((jo_good _ _ _).lt hT _ h) (Nat.not_lt.2 (Nat.le_trans (size_only O265) (ownF_ge r117 k hk)))) (fun k hk => Nat.lt_of_lt_of_le (ownF_lt r117 k hk) (Nat.le_refl _)) fm129 fr130
                    have T298 : (JT b21 g108 (Jn.append J109 D m82.s).1 (Jn.append J109 D m82.s).2.1) w284 F126 := ((jt_good _ _ _ _).only ((jt_good _ _ _ _).only ((jt_good _ _ _ _).only ((jt_good _ _ _ _).only ((jt_good _ _ _ _).only ((jt_good _ _ _ _).only h127 O296 (fun _ _ h => h)) o238 (fun k hk e => (fun k hk h => absurd ((jt_good _ _ _ _).lt h127 _ h) (Nat.not_lt.2 (Nat.le_trans (size_only O289) (ownF_ge r149 k hk)))) k e hk)) o251 (fun k hk e => (fun k hk h => absurd ((jt_good _ _ _ _).lt h127 _ h) (Nat.not_lt.2 (Nat.le_trans (size_only O289) (ownF_ge r237 k hk)))) k e hk)) o263 (fun _ _ h => h)) o274 (fun k hk e => sp297 k e hk)) o285 (fun _ _ h => h))
                    exact ⟨_, (by omega), i + 1, (Jn.append J109 D m82.s).1, some (g108, (Jn.append J109 D m82.s).2.1), (LA ++ [m82.s]), A246, c247, LS, As, cs, F126, rfl, Hz.cut ⟨rfl, rfl, rfl, rfl, rfl, rfl, rfl, rfl, trivial⟩, (by omega), hn134, (by rw [List.length_append, List.length_singleton]; omega), ok255, okS, O295, (ow_low r287 ((size_only O288))), (ow_low r291 (Nat.le_refl _)), T298, hge131, (fun k hk h => absurd ((jt_good _ _ _ _).lt h127 _ h) (Nat.not_lt.2 (Nat.le_trans (size_only O289) (ownF_ge r250 k hk)))), sp292⟩
                · -- 5 first
                  have hok299 : KStr.ok m82.s := by show List.length m82.s ≤ maxLen; have := (hfo.2 _ (List.mem_of_getElem? hm83)).1; unfold maxLen; omega
                  obtain ⟨A300, w301, hw, hA, r302, o303⟩ := Row.made (w := w144) KStr (e := 9) ([m82.s] : List Str) (by simp only [List.length_cons, List.length_nil]; unfold maxLen; omega)
                  refine Pl.MD (r_bs (z := strV ([])) (size := 1) (vs := [(0, strV (m82.s))]) (cs := List.flatMap KStr.cells [m82.s]) Tryd.underlying30 Tryd.sizeOf9 Tryd.zeroValue9 rfl (Fr.evalps Hz rfl) (by kernel_rfl)) Hz rfl rfl ?_ ?_
                  · rw [← hw]; exact ⟨fun _ => o303, (Only.trans (Only.refl NoF w144) o303 (fun _ h => h.elim))⟩
                  rw [← hw, ← hA]; clear Hz az; intro az Hz
                  clear hw hA
                  have ok304 : ∀ zq ∈ ([m82.s] : List Str), KStr.ok zq := by intro zq hx; simp only [List.mem_cons, List.not_mem_nil, or_false] at hx; rcases hx with rfl <;> first | exact hok299
                  obtain ⟨A305, w306, hw, hA, r307, o308⟩ := made0 (w := w301) (e := 9) (size := 1)
                  refine Pl.MD (r_bs0 Tryd.underlying30 Tryd.sizeOf9) Hz rfl rfl ?_ ?_
                  · rw [← hw]; exact ⟨fun h => absurd h (by decide), (Only.trans (Only.trans (Only.refl NoF w144) o303 (fun _ h => h.elim)) o308 (fun _ h => h.elim))⟩
                  rw [← hw, ← hA]; clear Hz az; intro az Hz
                  clear hw hA
                  have r310 := (ow_k (ow_k (ow_k (ow_k (ow_only (ow_k (ow_only (ow_only (ow_k rA o70) s75 (fun k hk => lt_F (oneF_ge hg72) (Nat.le_refl _) k (ownF_lt rA k hk))) s90 (fun k hk => lt_F (oneF_ge hg72) (Nat.le_refl _) k (ownF_lt rA k hk))) o118) o128 (fun k hk hF => sA k hk (.inl hF))) o140) o145) o303) o308)
                  have h309 := SliceOf.pl (Row.own KStr r310 okA)
                  have hb318 : (List.length (([] : List Str)) + List.length (LA)) * 16 ≤ 140737488355328 := by (simp only [List.length_append, List.length_cons, List.length_nil]; omega)
                  obtain ⟨A311, c312, w313, hr314, r315, o316, al317⟩ := Row.app (P := Tryd.prog) (l := ([] : List Str)) (l2 := LA) KStr elemStr r307 h309 hb318 (by unfold maxLen; omega) (size_only o308)
                  simp only [List.nil_append, List.append_nil] at hr314 r315 al317
                  refine Pl.MD (r_app hr314 Hz rfl rfl) Hz rfl rfl ?_ ?_
                  · exact ⟨fun h => absurd h (by decide), (Only.trans (Only.trans (Only.trans (Only.refl NoF w144) o303 (fun _ h => h.elim)) o308 (fun _ h => h.elim)) o316 (fun k h => .inr (Nat.le_trans (size_only o303) ((ownF_ge r307) k h))))⟩
                  clear Hz az; intro az Hz
                  have ok319 : ∀ zq ∈ LA, KStr.ok zq := (Row.oks KStr h309)
                  have h320 := Row.own KStr r315 ok319
                  have r322 := (ow_only (ow_k r302 o308) o316 (fun k hk => lt_F (ownF_ge r307) (Nat.le_refl _) k (ownF_lt r302 k hk)))
                  have h321 := SliceOf.pl (Row.own KStr r322 ok304)
                  have hb330 : (List.length (LA) + List.length ([m82.s])) * 16 ≤ 140737488355328 := by (simp only [List.length_append, List.length_cons, List.length_nil]; omega)
                  have O331 : Only NoF w301 w313 := (o_sg o308 o316 (Nat.le_refl _) (ownF_ge r307))
                  obtain ⟨A323, c324, w325, hr326, r327, o328, al329⟩ := Row.app (P := Tryd.prog) (l := LA) (l2 := [m82.s]) KStr elemStr r315 h321 hb330 (by unfold maxLen; omega) (size_only O331)
                  refine Pl.MD (r_app hr326 Hz rfl rfl) Hz rfl rfl ?_ ?_
                  · exact ⟨fun h => absurd h (by decide), (Only.trans (Only.trans (Only.trans (Only.trans (Only.refl NoF w144) o303 (fun _ h => h.elim)) o308 (fun _ h => h.elim)) o316 (fun k h => .inr (Nat.le_trans (size_only o303) ((ownF_ge r307) k h)))) o328 (fun k h => .inr (Nat.le_trans (size_only o303) ((ownF_ge r315) k h))))⟩
                  clear Hz az; intro az Hz
                  have ok332 : ∀ zq ∈ (LA ++ [m82.s]), KStr.ok zq := (fun x hx => (List.mem_append.1 hx).elim (ok319 x) ((Row.oks KStr h321) x))
                  have h333 := Row.own KStr r327 ok332
                  refine Pl.MSP (b := false) (by kernel_rfl) (fun W oW => r_as Hz rfl) Hz rfl rfl ?_
                  clear Hz az; intro az Hz
                  refine wpPl_nil ?_
                  refine hK142 _ _ ?_
                  refine wp_seq_k fun K334 hK334 => ?_
                  -- law.go:163
                  refine wp_region_lit ?_
                  refine L (r_mv Hz rfl) Hz rfl ?_
                  clear Hz az; intro az Hz
                  refine L (r_eqRI Hz rfl rfl) Hz rfl ?_
                  clear Hz az; intro az Hz
                  refine L (r_mv Hz rfl) Hz rfl ?_
                  clear Hz az; intro az Hz
                  refine LT Hz rfl rfl (r_mv Hz rfl) rfl ?_
                  clear Hz az; intro az Hz
                  refine LT Hz rfl rfl (r_mv Hz rfl) rfl ?_
                  clear Hz az; intro az Hz
                  refine LT Hz rfl rfl (r_fa (m' := 1) Tryd.underlying49 rfl Tryd.sizeOf9 rfl Hz rfl rfl) rfl ?_
                  clear Hz az; intro az Hz
                  have B335 := (Blk.only (Blk.only (Blk.k (Blk.k B146 o303) o308) o316 (ow_nb r307 (Blk.k (Blk.k B146 o303) o308) (by decide))) o328 (ow_nb r315 (Blk.only (Blk.k (Blk.k B146 o303) o308) o316 (ow_nb r307 (Blk.k (Blk.k B146 o303) o308) (by decide))) (by decide)))
                  refine LT Hz rfl rfl (r_ld Tryd.isAgg9 Hz rfl ((Blk.ca B335) 1 _ rfl)) rfl ?_
                  clear Hz az; intro az Hz
                  have hok336 : KStr.ok m82.s := by show List.length m82.s ≤ maxLen; have := (hfo.2 _ (List.mem_of_getElem? hm83)).1; unfold maxLen; omega
                  obtain ⟨A337, w338, hw, hA, r339, o340⟩ := Row.made (w := w325) KStr (e := 9) ([m82.s] : List Str) (by simp only [List.length_cons, List.length_nil]; unfold maxLen; omega)
                  refine LT Hz rfl rfl (r_bs (z := strV ([])) (size := 1) (vs := [(0, strV (m82.s))]) (cs := List.flatMap KStr.cells [m82.s]) Tryd.underlying30 Tryd.sizeOf9 Tryd.zeroValue9 rfl (Fr.evalps Hz rfl) (by kernel_rfl)) rfl ?_
                  rw [← hw, ← hA]; clear Hz az; intro az Hz
                  clear hw hA
                  have ok341 : ∀ zq ∈ ([m82.s] : List Str), KStr.ok zq := by intro zq hx; simp only [List.mem_cons, List.not_mem_nil, or_false] at hx; rcases hx with rfl <;> first | exact hok336
                  have O342 : Only NoF w59 w89 := (o_sg (o_sg o70 s75 (Nat.le_refl _) (oneF_ge hg72)) s90 (Nat.le_refl _) (oneF_ge hg72))
                  have O343 := (Only.trans (Only.trans (Only.trans (Only.trans (Only.refl (fun _ => True) w114) o128 (fun _ _ => .inl trivial)) o140 (fun _ _ => .inl trivial)) o145 (fun _ _ => .inl trivial)) o303 (fun _ _ => .inl trivial))
                  have r344 := (ow_k (ow_only (ow_only (ow_k (ow_k (ow_k (ow_k (ow_only r117 o128 (fun k hk hF => (fun k hk h => absurd ((jo_good _ _ _).lt hT _ h) (Nat.not_lt.2 (Nat.le_trans (size_only O342) (ownF_ge r117 k hk)))) k hk (.inl hF))) o140) o145) o303) o308) o316 (fun k hk => lt_F (ownF_ge r307) (size_only O343) k (ownF_lt r117 k hk))) o328 (fun k hk => lt_F (ownF_ge r315) (size_only O343) k (ownF_lt r117 k hk))) o340)
                  have h345 := SliceOf.pl (Row.own KStr r339 ok341)
                  have hb353 : (List.length (J109.l) + List.length ([m82.s])) * 16 ≤ 140737488355328 := by (have := (linv_n (J := J109) hL (by omega)).2; simp only [List.length_append, List.length_cons, List.length_nil]; omega)
                  have O354 := (Only.trans (Only.trans (Only.trans (Only.trans (Only.trans (Only.trans (Only.trans (Only.trans (Only.trans (Only.refl (fun _ => True) w89) o118 (fun _ _ => .inl trivial)) o128 (fun _ _ => .inl trivial)) o140 (fun _ _ => .inl trivial)) o145 (fun _ _ => .inl trivial)) o303 (fun _ _ => .inl trivial)) o308 (fun _ _ => .inl trivial)) o316 (fun _ _ => .inl trivial)) o328 (fun _ _ => .inl trivial)) o340 (fun _ _ => .inl trivial))
                  obtain ⟨A346, c347, w348, hr349, r350, o351, al352⟩ := Row.app (P := Tryd.prog) (l := J109.l) (l2 := [m82.s]) KStr elemStr r344 h345 hb353 (by unfold maxLen; omega) (size_only O354)
                  refine LT Hz rfl rfl (r_app hr349 Hz rfl rfl) rfl ?_
                  clear Hz az; intro az Hz
                  have ok355 : ∀ zq ∈ (J109.l ++ [m82.s]), KStr.ok zq := (fun x hx => (List.mem_append.1 hx).elim (okl119 x) ((Row.oks KStr h345) x))
                  have h356 := Row.own KStr r350 ok355
                  have O358 : Only NoF w136 w301 := (Only.trans' o145 o303)
                  have O359 := (Only.trans (Only.refl (fun _ => True) w114) o128 (fun _ _ => .inl trivial))
                  have r360 := (ow_only (ow_k (ow_only (ow_only (ow_k (ow_k (ow_k r139 o145) o303) o308) o316 (fun k hk => lt_F (ownF_ge r307) (size_only O358) k (ownF_lt r139 k hk))) o328 (fun k hk => lt_F (ownF_ge r315) (size_only O358) k (ownF_lt r139 k hk))) o340) o351 (fun k hk => ge_F (ownF_lt r117) (size_only O359) k (ownF_ge (ow_k (ow_only (ow_only (ow_k (ow_k (ow_k r139 o145) o303) o308) o316 (fun k hk => lt_F (ownF_ge r307) (size_only O358) k (ownF_lt r139 k hk))) o328 (fun k hk => lt_F (ownF_ge r315) (size_only O358) k (ownF_lt r139 k hk))) o340) k hk)))
                  have h357 := SliceOf.pl (Row.own KStr r360 okl141)
                  have h361 := SliceOf.pl (Row.own KStr r350 ok355)
                  refine LGV (v := .bool (true)) Hz rfl rfl gd_t rfl (fun hb => rfl) Tryd.call20 (fun hb => fix_eq (congrArg Value.bool (decide_eq_true hl133)) (SameTexts_v h357 h361)) rfl fun w362 o363 => ?_
                  clear Hz az; intro az Hz
                  refine LT Hz rfl rfl (r_not Hz rfl) rfl ?_
                  clear Hz az; intro az Hz
                  refine L (r_pick Hz rfl rfl rfl) Hz rfl ?_
                  clear Hz az; intro az Hz
                  refine L (r_mv Hz rfl) Hz rfl ?_
                  clear Hz az; intro az Hz
                  refine LT Hz rfl rfl (r_mv Hz rfl) rfl ?_
                  clear Hz az; intro az Hz
                  refine LT Hz rfl rfl (r_neRI Hz rfl rfl) rfl ?_
                  clear Hz az; intro az Hz
                  refine LT Hz rfl rfl (r_mv Hz rfl) rfl ?_
                  clear Hz az; intro az Hz
                  refine LF Hz rfl rfl rfl rfl ?_
                  clear Hz az; intro az Hz
                  refine LF Hz rfl rfl rfl rfl ?_
                  clear Hz az; intro az Hz
                  refine LF Hz rfl rfl rfl rfl ?_
                  clear Hz az; intro az Hz
                  refine LF Hz rfl rfl rfl rfl ?_
                  clear Hz az; intro az Hz
                  refine LT Hz rfl rfl (r_pick Hz rfl rfl rfl) rfl ?_
                  clear Hz az; intro az Hz
                  refine L (r_pick Hz rfl rfl rfl) Hz rfl ?_
                  clear Hz az; intro az Hz
                  refine hK334 _ _ ?_
                  refine br_false Hz rfl ?_
                  refine wp_skip ?_
                  refine hK66 _ _ ?_
                  -- law.go:144
                  refine wp_region_lit ?_
                  refine L (r_mv Hz rfl) Hz rfl ?_
                  clear Hz az; intro az Hz
                  have i364 : I64 (((i : Int) + 1)) := by unfold I64; omega
                  refine L (r_addI (r := ((i : Int) + 1)) Hz rfl rfl rfl i364) Hz rfl ?_
                  clear Hz az; intro az Hz
                  refine L (r_as Hz rfl) Hz rfl ?_
                  clear Hz az; intro az Hz
                  have r365 := (ow_k (ow_only (ow_k r327 o340) o351 (fun k hk => ge_F (ownF_lt r117) (size_only O343) k (ownF_ge (ow_k r327 o340) k hk))) o363)
                  have O366 : Only NoF w w301 := (Only.trans' (Only.trans' (Only.trans' (o_sg O123 o128 (Nat.le_refl _) (fun k h => hgeT k (.inl h))) o140) o145) o303)
                  have O367 : Only NoF w125 w301 := (Only.trans' (Only.trans' o140 o145) o303)
                  have O368 := (Only.trans (Only.trans (Only.trans (Only.trans (Only.trans (Only.trans (Only.trans (Only.trans (Only.refl (fun _ => True) w59) o70 (fun _ _ => .inl trivial)) s75 (fun _ _ => .inl trivial)) s90 (fun _ _ => .inl trivial)) o118 (fun _ _ => .inl trivial)) o128 (fun _ _ => .inl trivial)) o140 (fun _ _ => .inl trivial)) o145 (fun _ _ => .inl trivial)) o303 (fun _ _ => .inl trivial))
                  have r369 := (ow_k (ow_only (ow_k (ow_only (ow_only (ow_k (ow_k (ow_k (ow_k (ow_only (ow_k (ow_only (ow_only (ow_k rS o70) s75 (fun k hk => lt_F (oneF_ge hg72) (Nat.le_refl _) k (ownF_lt rS k hk))) s90 (fun k hk => lt_F (oneF_ge hg72) (Nat.le_refl _) k (ownF_lt rS k hk))) o118) o128 (fun k hk hF => sS k hk (.inl hF))) o140) o145) o303) o308) o316 (fun k hk => lt_F (ownF_ge r307) (size_only O368) k (ownF_lt rS k hk))) o328 (fun k hk => lt_F (ownF_ge r315) (size_only O368) k (ownF_lt rS k hk))) o340) o351 (fun k hk => lt_F (ownF_ge r117) (size_only O342) k (ownF_lt rS k hk))) o363)
                  have O371 : Only NoF w59 w114 := (Only.trans' O342 o118)
                  have sp370 : ∀ k, ownF (.slice As (LS.length) cs) k → ¬ Foot.all F126 k := sep_nexto sS (fun k hk => Nat.lt_of_lt_of_le (ownF_lt rS k hk) (size_only O371)) fm129 fr130
                  have O372 : Only NoF w w89 := (o_sg O87 s90 (size_only o60) (oneF_ge hg72))
                  have O373 : Only NoF w w362 := (Only.trans' (o_sg (Only.trans' (o_sg (o_sg (Only.trans' O366 o308) o316 (size_only O366) (ownF_ge r307)) o328 (size_only O366) (ownF_ge r315)) o340) o351 (size_only O372) (ownF_ge r117)) o363)
                  have O374 : Only NoF w125 w306 := (Only.trans' O367 o308)
                  have sp375 : ∀ k, ownF (.slice A115 ((J109.l).length) c116) k → ¬ Foot.all F126 k := sep_nexto (fun k hk h => absurd ((jo_good _ _ _).lt hT _ h) (Nat.not_lt.2 (Nat.le_trans (size_only O342) (ownF_ge r117 k hk)))) (fun k hk => Nat.lt_of_lt_of_le (ownF_lt r117 k hk) (Nat.le_refl _)) fm129 fr130
                  have T376 : (JT b21 g108 (Jn.append J109 D m82.s).1 (Jn.append J109 D m82.s).2.1) w362 F126 := ((jt_good _ _ _ _).only ((jt_good _ _ _ _).only ((jt_good _ _ _ _).only ((jt_good _ _ _ _).only ((jt_good _ _ _ _).only ((jt_good _ _ _ _).only h127 O374 (fun _ _ h => h)) o316 (fun k hk e => (fun k hk h => absurd ((jt_good _ _ _ _).lt h127 _ h) (Nat.not_lt.2 (Nat.le_trans (size_only O367) (ownF_ge r307 k hk)))) k e hk)) o328 (fun k hk e => (fun k hk h => absurd ((jt_good _ _ _ _).lt h127 _ h) (Nat.not_lt.2 (Nat.le_trans (size_only O367) (ownF_ge r315 k hk)))) k e hk)) o340 (fun _ _ h => h)) o351 (fun k hk e => sp375 k e hk)) o363 (fun _ _ h => h))
                  exact ⟨_, (by omega), i + 1, (Jn.append J109 D m82.s).1, some (g108, (Jn.append J109 D m82.s).2.1), (LA ++ [m82.s]), A323, c324, LS, As, cs, F126, rfl, Hz.cut ⟨rfl, rfl, rfl, rfl, rfl, rfl, rfl, rfl, trivial⟩, (by omega), hn134, (by rw [List.length_append, List.length_singleton]; omega), ok332, okS, O373, (ow_low r365 ((size_only O366))), (ow_low r369 (Nat.le_refl _)), T376, hge131, (fun k hk h => absurd ((jt_good _ _ _ _).lt h127 _ h) (Nat.not_lt.2 (Nat.le_trans (size_only O367) (ownF_ge r327 k hk)))), sp370⟩
              · -- a case
                rw [he132] at Hz
                refine L (r_as Hz rfl) Hz rfl ?_
                clear Hz az; intro az Hz
                refine hK120 _ _ ?_
                refine wp_seq_k fun K377 hK377 => ?_
                -- law.go:159
                refine wp_region_lit ?_
                refine L (r_mv Hz rfl) Hz rfl ?_
                clear Hz az; intro az Hz
                have okl383 := okB (BothT.l (X := JB b21 g108 ((Jn.append J109 D m82.s).2.1)) h127)
                refine LC Hz rfl rfl Tryd.call10 (all_b (BothT.l (X := JB b21 g108 ((Jn.append J109 D m82.s).2.1)) h127) (by rw [hl133]; exact Nat.le_trans (linv_n hL (by omega)).2 (by decide))) rfl ?_
                rintro e w378 ⟨A379, c380, rfl, r381, o382⟩; refine ⟨_, rfl, ?_⟩
                clear Hz az; intro az Hz
                refine L (r_as Hz rfl) Hz rfl ?_
                clear Hz az; intro az Hz
                refine hK377 _ _ ?_
                refine wp_seq_k fun K384 hK384 => ?_
                refine wp_seq_k fun K385 hK385 => ?_
                -- law.go:160
                refine wp_region_lit ?_
                refine L (r_mv Hz rfl) Hz rfl ?_
                clear Hz az; intro az Hz
                refine L (r_eqIl Hz rfl rfl (by decide)) Hz rfl ?_
                clear Hz az; intro az Hz
                refine L (r_mv Hz rfl) Hz rfl ?_
                clear Hz az; intro az Hz
                refine LT Hz rfl rfl (r_mv Hz rfl) rfl ?_
                clear Hz az; intro az Hz
                refine LGV (v := .bool (true)) Hz rfl rfl gd_f rfl (fun hb => rfl) Tryd.call29 (fun hb => fix_eq (congrArg Value.bool (by decide)) (disky_v _ 8)) rfl fun w386 o387 => ?_
                clear Hz az; intro az Hz
                refine L (r_pick Hz rfl rfl rfl) Hz rfl ?_
                clear Hz az; intro az Hz
                refine hK385 _ _ ?_
                refine br_true Hz rfl ?_
                -- law.go:161
                refine reg_p NoF 1 [0, 2, 5, 6] (.rd 1 (.rd 3 (.rd 4 (.fork 0 (.fork 2 (.ex 5 (.ex 6 (.rd 7 .nil))) 5 (.ex 2 (.ex 6 (.rd 7 .nil)))) 5 (.ex 0 (.ex 2 (.ex 6 (.rd 7 .nil)))))))) (by kernel_rfl) (by kernel_rfl) (fun _ _ _ _ _ h => h) fun w388 o389 => ?_
                have B390 := (Blk.k (Blk.k (Blk.k (Blk.only B121 o128 (fun h => (fun h => absurd ((jo_good _ _ _).lt hT _ h) (Nat.not_lt.2 (Nat.le_trans (Nat.le_refl _) hg72))) (.inl h))) o382) o387) o389)
                refine Pl.MSP (b := false) (by kernel_rfl) (fun W oW => r_mv Hz rfl) Hz rfl rfl ?_
                clear Hz az; intro az Hz
                refine Pl.MSP (b := false) (by kernel_rfl) (fun W oW => r_fa (m' := 1) Tryd.underlying49 rfl Tryd.sizeOf9 rfl Hz rfl rfl) Hz rfl rfl ?_
                clear Hz az; intro az Hz
                refine Pl.MSP (b := false) (by kernel_rfl) (fun W oW => r_ld Tryd.isAgg9 Hz rfl ((Blk.ca (Blk.k B390 oW)) 1 _ rfl)) Hz rfl rfl ?_
                clear Hz az; intro az Hz
                refine wpPl_fork ?_ ?_
                · -- 0 first
                  obtain ⟨A391, w392, hw, hA, r393, o394⟩ := made0 (w := w388) (e := 9) (size := 1)
                  refine Pl.MD (r_bs0 Tryd.underlying30 Tryd.sizeOf9) Hz rfl rfl ?_ ?_
                  · rw [← hw]; exact ⟨fun _ => o394, (Only.trans (Only.refl NoF w388) o394 (fun _ h => h.elim))⟩
                  rw [← hw, ← hA]; clear Hz az; intro az Hz
                  clear hw hA
                  refine wpPl_fork ?_ ?_
                  · -- 2 first
                    have r396 := (ow_k (ow_k (ow_k (ow_k (ow_only (ow_k (ow_only (ow_only (ow_k rA o70) s75 (fun k hk => lt_F (oneF_ge hg72) (Nat.le_refl _) k (ownF_lt rA k hk))) s90 (fun k hk => lt_F (oneF_ge hg72) (Nat.le_refl _) k (ownF_lt rA k hk))) o118) o128 (fun k hk hF => sA k hk (.inl hF))) o382) o387) o389) o394)
                    have h395 := SliceOf.pl (Row.own KStr r396 okA)
                    have hb404 : (List.length (([] : List Str)) + List.length (LA)) * 16 ≤ 140737488355328 := by (simp only [List.length_append, List.length_cons, List.length_nil]; omega)
                    obtain ⟨A397, c398, w399, hr400, r401, o402, al403⟩ := Row.app (P := Tryd.prog) (l := ([] : List Str)) (l2 := LA) KStr elemStr r393 h395 hb404 (by unfold maxLen; omega) (size_only o394)
                    simp only [List.nil_append, List.append_nil] at hr400 r401 al403
                    refine Pl.MD (r_app hr400 Hz rfl rfl) Hz rfl rfl ?_ ?_
                    · exact ⟨fun h => absurd h (by decide), (Only.trans (Only.trans (Only.refl NoF w388) o394 (fun _ h => h.elim)) o402 (fun k h => .inr (Nat.le_trans (Nat.le_refl _) ((ownF_ge r393) k h))))⟩
                    clear Hz az; intro az Hz
                    have ok405 : ∀ zq ∈ LA, KStr.ok zq := (Row.oks KStr h395)
                    have h406 := Row.own KStr r401 ok405
                    have hok407 : KStr.ok m82.s := by show List.length m82.s ≤ maxLen; have := (hfo.2 _ (List.mem_of_getElem? hm83)).1; unfold maxLen; omega
                    obtain ⟨A408, w409, hw, hA, r410, o411⟩ := Row.made (w := w399) KStr (e := 9) ([m82.s] : List Str) (by simp only [List.length_cons, List.length_nil]; unfold maxLen; omega)
                    refine Pl.MD (r_bs (z := strV ([])) (size := 1) (vs := [(0, strV (m82.s))]) (cs := List.flatMap KStr.cells [m82.s]) Tryd.underlying30 Tryd.sizeOf9 Tryd.zeroValue9 rfl (Fr.evalps Hz rfl) (by kernel_rfl)) Hz rfl rfl ?_ ?_
                    · rw [← hw]; exact ⟨fun h => absurd h (by decide), (Only.trans (Only.trans (Only.trans (Only.refl NoF w388) o394 (fun _ h => h.elim)) o402 (fun k h => .inr (Nat.le_trans (Nat.le_refl _) ((ownF_ge r393) k h)))) o411 (fun _ h => h.elim))⟩
                    rw [← hw, ← hA]; clear Hz az; intro az Hz
                    clear hw hA
                    have ok412 : ∀ zq ∈ ([m82.s] : List Str), KStr.ok zq := by intro zq hx; simp only [List.mem_cons, List.not_mem_nil, or_false] at hx; rcases hx with rfl <;> first | exact hok407
                    have r413 := (ow_k r401 o411)
                    have h414 := SliceOf.pl (Row.own KStr r410 ok412)
                    have hb422 : (List.length (LA) + List.length ([m82.s])) * 16 ≤ 140737488355328 := by (simp only [List.length_append, List.length_cons, List.length_nil]; omega)
                    have O423 : Only NoF w388 w409 := (Only.trans' (o_sg o394 o402 (Nat.le_refl _) (ownF_ge r393)) o411)
                    obtain ⟨A415, c416, w417, hr418, r419, o420, al421⟩ := Row.app (P := Tryd.prog) (l := LA) (l2 := [m82.s]) KStr elemStr r413 h414 hb422 (by unfold maxLen; omega) (size_only O423)
                    refine Pl.MD (r_app hr418 Hz rfl rfl) Hz rfl rfl ?_ ?_
                    · exact ⟨fun h => absurd h (by decide), (Only.trans (Only.trans (Only.trans (Only.trans (Only.refl NoF w388) o394 (fun _ h => h.elim)) o402 (fun k h => .inr (Nat.le_trans (Nat.le_refl _) ((ownF_ge r393) k h)))) o411 (fun _ h => h.elim)) o420 (fun k h => .inr (Nat.le_trans (Nat.le_refl _) ((ownF_ge r401) k h))))⟩
                    clear Hz az; intro az Hz
                    have ok424 : ∀ zq ∈ (LA ++ [m82.s]), KStr.ok zq := (fun x hx => (List.mem_append.1 hx).elim (ok405 x) ((Row.oks KStr h414) x))
                    have h425 := Row.own KStr r419 ok424
                    refine Pl.MSP (b := false) (by kernel_rfl) (fun W oW => r_as Hz rfl) Hz rfl rfl ?_
                    clear Hz az; intro az Hz
                    refine wpPl_nil ?_
                    refine hK384 _ _ ?_
                    refine wp_seq_k fun K426 hK426 => ?_
                    -- law.go:163
                    refine wp_region_lit ?_
                    refine L (r_mv Hz rfl) Hz rfl ?_
                    clear Hz az; intro az Hz
                    refine L (r_eqIl Hz rfl rfl (by decide)) Hz rfl ?_
                    clear Hz az; intro az Hz
                    refine L (r_mv Hz rfl) Hz rfl ?_
                    clear Hz az; intro az Hz
                    refine LF Hz rfl rfl rfl rfl ?_
                    clear Hz az; intro az Hz
                    refine LF Hz rfl rfl rfl rfl ?_
                    clear Hz az; intro az Hz
                    refine LF Hz rfl rfl rfl rfl ?_
                    clear Hz az; intro az Hz
                    refine LF Hz rfl rfl rfl rfl ?_
                    clear Hz az; intro az Hz
                    refine LF Hz rfl rfl rfl rfl ?_
                    clear Hz az; intro az Hz
                    refine LF Hz rfl rfl rfl rfl ?_
                    clear Hz az; intro az Hz
                    refine LF Hz rfl rfl rfl rfl ?_
                    clear Hz az; intro az Hz
                    refine LF Hz rfl rfl rfl rfl ?_
                    clear Hz az; intro az Hz
                    refine L (r_pick Hz rfl rfl rfl) Hz rfl ?_
                    clear Hz az; intro az Hz
                    refine L (r_mv Hz rfl) Hz rfl ?_
                    clear Hz az; intro az Hz
                    refine LT Hz rfl rfl (r_mv Hz rfl) rfl ?_
                    clear Hz az; intro az Hz
                    refine LT Hz rfl rfl (r_neIl Hz rfl rfl (by decide)) rfl ?_
                    clear Hz az; intro az Hz
                    refine LT Hz rfl rfl (r_mv Hz rfl) rfl ?_
                    clear Hz az; intro az Hz
                    refine LT Hz rfl rfl (r_mv Hz rfl) rfl ?_
                    clear Hz az; intro az Hz
                    refine LT Hz rfl rfl (r_mv Hz rfl) rfl ?_
                    clear Hz az; intro az Hz
                    have O428 : Only NoF w378 w388 := (Only.trans' o387 o389)
                    have r429 := (ow_only (ow_k (ow_only (ow_k (ow_k (ow_k r381 o387) o389) o394) o402 (fun k hk => lt_F (ownF_ge r393) (size_only O428) k (ownF_lt r381 k hk))) o411) o420 (fun k hk => lt_F (ownF_ge r401) (size_only O428) k (ownF_lt r381 k hk)))
                    have h427 := SliceOf.pl (Row.own KStr r429 okl383)
                    have O431 : Only NoF w59 w89 := (o_sg (o_sg o70 s75 (Nat.le_refl _) (oneF_ge hg72)) s90 (Nat.le_refl _) (oneF_ge hg72))
                    have O432 := (Only.trans (Only.trans (Only.trans (Only.trans (Only.refl (fun _ => True) w114) o128 (fun _ _ => .inl trivial)) o382 (fun _ _ => .inl trivial)) o387 (fun _ _ => .inl trivial)) o389 (fun _ _ => .inl trivial))
                    have r433 := (ow_only (ow_k (ow_only (ow_k (ow_k (ow_k (ow_k (ow_only r117 o128 (fun k hk hF => (fun k hk h => absurd ((jo_good _ _ _).lt hT _ h) (Nat.not_lt.2 (Nat.le_trans (size_only O431) (ownF_ge r117 k hk)))) k hk (.inl hF))) o382) o387) o389) o394) o402 (fun k hk => lt_F (ownF_ge r393) (size_only O432) k (ownF_lt r117 k hk))) o411) o420 (fun k hk => lt_F (ownF_ge r401) (size_only O432) k (ownF_lt r117 k hk)))
                    have h430 := SliceOf.pl (Row.own KStr r433 okl119)
                    refine LGV (v := .bool (true)) Hz rfl rfl gd_t rfl (fun hb => rfl) Tryd.call20 (fun hb => fix_eq (congrArg Value.bool (decide_eq_true hl133)) (SameTexts_v h427 h430)) rfl fun w434 o435 => ?_
                    clear Hz az; intro az Hz
                    refine LT Hz rfl rfl (r_not Hz rfl) rfl ?_
                    clear Hz az; intro az Hz
                    refine LT Hz rfl rfl (r_pick Hz rfl rfl rfl) rfl ?_
                    clear Hz az; intro az Hz
                    refine L (r_pick Hz rfl rfl rfl) Hz rfl ?_
                    clear Hz az; intro az Hz
                    refine hK426 _ _ ?_
                    refine br_false Hz rfl ?_
                    refine wp_skip ?_
                    refine hK66 _ _ ?_
                    -- law.go:144
                    refine wp_region_lit ?_
                    refine L (r_mv Hz rfl) Hz rfl ?_
                    clear Hz az; intro az Hz
                    have i436 : I64 (((i : Int) + 1)) := by unfold I64; omega
                    refine L (r_addI (r := ((i : Int) + 1)) Hz rfl rfl rfl i436) Hz rfl ?_
                    clear Hz az; intro az Hz
                    refine L (r_as Hz rfl) Hz rfl ?_
                    clear Hz az; intro az Hz
                    have r437 := (ow_k r419 o435)
                    have O438 : Only NoF w w388 := (Only.trans' (Only.trans' (Only.trans' (o_sg O123 o128 (Nat.le_refl _) (fun k h => hgeT k (.inl h))) o382) o387) o389)
                    have O439 : Only NoF w125 w388 := (Only.trans' (Only.trans' o382 o387) o389)
                    have O440 := (Only.trans (Only.trans (Only.trans (Only.trans (Only.trans (Only.trans (Only.trans (Only.trans (Only.refl (fun _ => True) w59) o70 (fun _ _ => .inl trivial)) s75 (fun _ _ => .inl trivial)) s90 (fun _ _ => .inl trivial)) o118 (fun _ _ => .inl trivial)) o128 (fun _ _ => .inl trivial)) o382 (fun _ _ => .inl trivial)) o387 (fun _ _ => .inl trivial)) o389 (fun _ _ => .inl trivial))
                    have r441 := (ow_k (ow_only (ow_k (ow_only (ow_k (ow_k (ow_k (ow_k (ow_only (ow_k (ow_only (ow_only (ow_k rS o70) s75 (fun k hk => lt_F (oneF_ge hg72) (Nat.le_refl _) k (ownF_lt rS k hk))) s90 (fun k hk => lt_F (oneF_ge hg72) (Nat.le_refl _) k (ownF_lt rS k hk))) o118) o128 (fun k hk hF => sS k hk (.inl hF))) o382) o387) o389) o394) o402 (fun k hk => lt_F (ownF_ge r393) (size_only O440) k (ownF_lt rS k hk))) o411) o420 (fun k hk => lt_F (ownF_ge r401) (size_only O440) k (ownF_lt rS k hk))) o435)
                    have O443 : Only NoF w59 w114 := (Only.trans' O431 o118)
                    have sp442 : ∀ k, ownF (.slice As (LS.length) cs) k → ¬ Foot.all F126 k := sep_nexto sS (fun k hk => Nat.lt_of_lt_of_le (ownF_lt rS k hk) (size_only O443)) fm129 fr130
                    have O444 : Only NoF w w434 := (Only.trans' (o_sg (Only.trans' (o_sg (Only.trans' O438 o394) o402 (size_only O438) (ownF_ge r393)) o411) o420 (size_only O438) (ownF_ge r401)) o435)
                    have O445 : Only NoF w125 w392 := (Only.trans' O439 o394)
                    have T446 : (JT b21 g108 (Jn.append J109 D m82.s).1 (Jn.append J109 D m82.s).2.1) w434 F126 := ((jt_good _ _ _ _).only ((jt_good _ _ _ _).only ((jt_good _ _ _ _).only ((jt_good _ _ _ _).only ((jt_good _ _ _ _).only h127 O445 (fun _ _ h => h)) o402 (fun k hk e => (fun k hk h => absurd ((jt_good _ _ _ _).lt h127 _ h) (Nat.not_lt.2 (Nat.le_trans (size_only O439) (ownF_ge r393 k hk)))) k e hk)) o411 (fun _ _ h => h)) o420 (fun k hk e => (fun k hk h => absurd ((jt_good _ _ _ _).lt h127 _ h) (Nat.not_lt.2 (Nat.le_trans (size_only O439) (ownF_ge r401 k hk)))) k e hk)) o435 (fun _ _ h => h))
                    exact ⟨_, (by omega), i + 1, (Jn.append J109 D m82.s).1, some (g108, (Jn.append J109 D m82.s).2.1), (LA ++ [m82.s]), A415, c416, LS, As, cs, F126, rfl, Hz.cut ⟨rfl, rfl, rfl, rfl, rfl, rfl, rfl, rfl, trivial⟩, (by omega), hn134, (by rw [List.length_append, List.length_singleton]; omega), ok424, okS, O444, (ow_low r437 ((size_only O438))), (ow_low r441 (Nat.le_refl _)), T446, hge131, (fun k hk h => absurd ((jt_good _ _ _ _).lt h127 _ h) (Nat.not_lt.2 (Nat.le_trans (size_only O439) (ownF_ge r419 k hk)))), sp442⟩
                  · -- 5 first
                    have hok447 : KStr.ok m82.s := by show List.length m82.s ≤ maxLen; have := (hfo.2 _ (List.mem_of_getElem? hm83)).1; unfold maxLen; omega
                    obtain ⟨A448, w449, hw, hA, r450, o451⟩ := Row.made (w := w392) KStr (e := 9) ([m82.s] : List Str) (by simp only [List.length_cons, List.length_nil]; unfold maxLen; omega)
                    refine Pl.MD (r_bs (z := strV ([])) (size := 1) (vs := [(0, strV (m82.s))]) (cs := List.flatMap KStr.cells [m82.s]) Tryd.underlying30 Tryd.sizeOf9 Tryd.zeroValue9 rfl (Fr.evalps Hz rfl) (by kernel_rfl)) Hz rfl rfl ?_ ?_
                    · rw [← hw]; exact ⟨fun h => absurd h (by decide), (Only.trans (Only.trans (Only.refl NoF w388) o394 (fun _ h => h.elim)) o451 (fun _ h => h.elim))⟩
                    rw [← hw, ← hA]; clear Hz az; intro az Hz
                    clear hw hA
                    have ok452 : ∀ zq ∈ ([m82.s] : List Str), KStr.ok zq := by intro zq hx; simp only [List.mem_cons, List.not_mem_nil, or_false] at hx; rcases hx with rfl <;> first | exact hok447
                    have r453 := (ow_k r393 o451)
                    have r455 := (ow_k (ow_k (ow_k (ow_k (ow_k (ow_only (ow_k (ow_only (ow_only (ow_k rA o70) s75 (fun k hk => lt_F (oneF_ge hg72) (Nat.le_refl _) k (ownF_lt rA k hk))) s90 (fun k hk => lt_F (oneF_ge hg72) (Nat.le_refl _) k (ownF_lt rA k hk))) o118) o128 (fun k hk hF => sA k hk (.inl hF))) o382) o387) o389) o394) o451)
                    have h454 := SliceOf.pl (Row.own KStr r455 okA)
                    have hb463 : (List.length (([] : List Str)) + List.length (LA)) * 16 ≤ 140737488355328 := by (simp only [List.length_append, List.length_cons, List.length_nil]; omega)
                    have O464 : Only NoF w388 w449 := (Only.trans' o394 o451)
                    obtain ⟨A456, c457, w458, hr459, r460, o461, al462⟩ := Row.app (P := Tryd.prog) (l := ([] : List Str)) (l2 := LA) KStr elemStr r453 h454 hb463 (by unfold maxLen; omega) (size_only O464)
                    simp only [List.nil_append, List.append_nil] at hr459 r460 al462
                    refine Pl.MD (r_app hr459 Hz rfl rfl) Hz rfl rfl ?_ ?_
                    · exact ⟨fun h => absurd h (by decide), (Only.trans (Only.trans (Only.trans (Only.refl NoF w388) o394 (fun _ h => h.elim)) o451 (fun _ h => h.elim)) o461 (fun k h => .inr (Nat.le_trans (Nat.le_refl _) ((ownF_ge r393) k h))))⟩
                    clear Hz az; intro az Hz
                    have ok465 : ∀ zq ∈ LA, KStr.ok zq := (Row.oks KStr h454)
                    have h466 := Row.own KStr r460 ok465
                    have r468 := (ow_only r450 o461 (fun k hk => ge_F (ownF_lt r393) (Nat.le_refl _) k (ownF_ge r450 k hk)))
                    have h467 := SliceOf.pl (Row.own KStr r468 ok452)
                    have hb476 : (List.length (LA) + List.length ([m82.s])) * 16 ≤ 140737488355328 := by (simp only [List.length_append, List.length_cons, List.length_nil]; omega)
                    have O477 : Only NoF w388 w458 := (o_sg O464 o461 (Nat.le_refl _) (ownF_ge r393))
                    obtain ⟨A469, c470, w471, hr472, r473, o474, al475⟩ := Row.app (P := Tryd.prog) (l := LA) (l2 := [m82.s]) KStr elemStr r460 h467 hb476 (by unfold maxLen; omega) (size_only O477)
                    refine Pl.MD (r_app hr472 Hz rfl rfl) Hz rfl rfl ?_ ?_
                    · exact ⟨fun h => absurd h (by decide), (Only.trans (Only.trans (Only.trans (Only.trans (Only.refl NoF w388) o394 (fun _ h => h.elim)) o451 (fun _ h => h.elim)) o461 (fun k h => .inr (Nat.le_trans (Nat.le_refl _) ((ownF_ge r393) k h)))) o474 (fun k h => .inr (Nat.le_trans (Nat.le_refl _) ((ownF_ge r460) k h))))⟩
                    clear Hz az; intro az Hz
                    have ok478 : ∀ zq ∈ (LA ++ [m82.s]), KStr.ok zq := (fun x hx => (List.mem_append.1 hx).elim (ok465 x) ((Row.oks KStr h467) x))
                    have h479 := Row.own KStr r473 ok478
                    refine Pl.MSP (b := false) (by kernel_rfl) (fun W oW => r_as Hz rfl) Hz rfl rfl ?_
                    clear Hz az; intro az Hz
                    refine wpPl_nil ?_
                    refine hK384 _ _ ?_
                    refine wp_seq_k fun K480 hK480 => ?_
                    -- law.go:163
                    refine wp_region_lit ?_
                    refine L (r_mv Hz rfl) Hz rfl ?_
                    clear Hz az; intro az Hz
                    refine L (r_eqIl Hz rfl rfl (by decide)) Hz rfl ?_
                    clear Hz az; intro az Hz
                    refine L (r_mv Hz rfl) Hz rfl ?_
                    clear Hz az; intro az Hz
                    refine LF Hz rfl rfl rfl rfl ?_
                    clear Hz az; intro az Hz
                    refine LF Hz rfl rfl rfl rfl ?_
                    clear Hz az; intro az Hz
                    refine LF Hz rfl rfl rfl rfl ?_
                    clear Hz az; intro az Hz
                    refine LF Hz rfl rfl rfl rfl ?_
                    clear Hz az; intro az Hz
                    refine LF Hz rfl rfl rfl rfl ?_
                    clear Hz az; intro az Hz
                    refine LF Hz rfl rfl rfl rfl ?_
                    clear Hz az; intro az Hz
                    refine LF Hz rfl rfl rfl rfl ?_
                    clear Hz az; intro az Hz
                    refine LF Hz rfl rfl rfl rfl ?_
                    clear Hz az; intro az Hz
                    refine L (r_pick Hz rfl rfl rfl) Hz rfl ?_
                    clear Hz az; intro az Hz
                    refine L (r_mv Hz rfl) Hz rfl ?_
                    clear Hz az; intro az Hz
                    refine LT Hz rfl rfl (r_mv Hz rfl) rfl ?_
                    clear Hz az; intro az Hz
                    refine LT Hz rfl rfl (r_neIl Hz rfl rfl (by decide)) rfl ?_
                    clear Hz az; intro az Hz
                    refine LT Hz rfl rfl (r_mv Hz rfl) rfl ?_
                    clear Hz az; intro az Hz
                    refine LT Hz rfl rfl (r_mv Hz rfl) rfl ?_
                    clear Hz az; intro az Hz
                    refine LT Hz rfl rfl (r_mv Hz rfl) rfl ?_
                    clear Hz az; intro az Hz
                    have O482 : Only NoF w378 w388 := (Only.trans' o387 o389)
                    have r483 := (ow_only (ow_only (ow_k (ow_k (ow_k (ow_k r381 o387) o389) o394) o451) o461 (fun k hk => lt_F (ownF_ge r393) (size_only O482) k (ownF_lt r381 k hk))) o474 (fun k hk => lt_F (ownF_ge r460) (size_only O482) k (ownF_lt r381 k hk)))
                    have h481 := SliceOf.pl (Row.own KStr r483 okl383)
                    have O485 : Only NoF w59 w89 := (o_sg (o_sg o70 s75 (Nat.le_refl _) (oneF_ge hg72)) s90 (Nat.le_refl _) (oneF_ge hg72))
                    have O486 := (Only.trans (Only.trans (Only.trans (Only.trans (Only.refl (fun _ => True) w114) o128 (fun _ _ => .inl trivial)) o382 (fun _ _ => .inl trivial)) o387 (fun _ _ => .inl trivial)) o389 (fun _ _ => .inl trivial))
                    have r487 := (ow_only (ow_only (ow_k (ow_k (ow_k (ow_k (ow_k (ow_only r117 o128 (fun k hk hF => (fun k hk h => absurd ((jo_good _ _ _).lt hT _ h) (Nat.not_lt.2 (Nat.le_trans (size_only O485) (ownF_ge r117 k hk)))) k hk (.inl hF))) o382) o387) o389) o394) o451) o461 (fun k hk => lt_F (ownF_ge r393) (size_only O486) k (ownF_lt r117 k hk))) o474 (fun k hk => lt_F (ownF_ge r460) (size_only O486) k (ownF_lt r117 k hk)))
                    have h484 := SliceOf.pl (Row.own KStr r487 okl119)
                    refine LGV (v := .bool (true)) Hz rfl rfl gd_t rfl (fun hb => rfl) Tryd.call20 (fun hb => fix_eq (congrArg Value.bool (decide_eq_true hl133)) (SameTexts_v h481 h484)) rfl fun w488 o489 => ?_
                    clear Hz az; intro az Hz
                    refine LT Hz rfl rfl (r_not Hz rfl) rfl ?_
                    clear Hz az; intro az Hz
                    refine LT Hz rfl rfl (r_pick Hz rfl rfl rfl) rfl ?_
                    clear Hz az; intro az Hz
                    refine L (r_pick Hz rfl rfl rfl) Hz rfl ?_
                    clear Hz az; intro az Hz
                    refine hK480 _ _ ?_
                    refine br_false Hz rfl ?_
                    refine wp_skip ?_
                    refine hK66 _ _ ?_
                    -- law.go:144
                    refine wp_region_lit ?_
                    refine L (r_mv Hz rfl) Hz rfl ?_
                    clear Hz az; intro az Hz
                    have i490 : I64 (((i : Int) + 1)) := by unfold I64; omega
                    refine L (r_addI (r := ((i : Int) + 1)) Hz rfl rfl rfl i490) Hz rfl ?_
                    clear Hz az; intro az Hz
                    refine L (r_as Hz rfl) Hz rfl ?_
                    clear Hz az; intro az Hz
                    have r491 := (ow_k r473 o489)
                    have O492 : Only NoF w w388 := (Only.trans' (Only.trans' (Only.trans' (o_sg O123 o128 (Nat.le_refl _) (fun k h => hgeT k (.inl h))) o382) o387) o389)
                    have O493 : Only NoF w125 w388 := (Only.trans' (Only.trans' o382 o387) o389)
                    have O494 := (Only.trans (Only.trans (Only.trans (Only.trans (Only.trans (Only.trans (Only.trans (Only.trans (Only.refl (fun _ => True) w59) o70 (fun _ _ => .inl trivial)) s75 (fun _ _ => .inl trivial)) s90 (fun _ _ => .inl trivial)) o118 (fun _ _ => .inl trivial)) o128 (fun _ _ => .inl trivial)) o382 (fun _ _ => .inl trivial)) o387 (fun _ _ => .inl trivial)) o389 (fun _ _ => .inl trivial))
                    have r495 := (ow_k (ow_only (ow_only (ow_k (ow_k (ow_k (ow_k (ow_k (ow_only (ow_k (ow_only (ow_only (ow_k rS o70) s75 (fun k hk => lt_F (oneF_ge hg72) (Nat.le_refl _) k (ownF_lt rS k hk))) s90 (fun k hk => lt_F (oneF_ge hg72) (Nat.le_refl _) k (ownF_lt rS k hk))) o118) o128 (fun k hk hF => sS k hk (.inl hF))) o382) o387) o389) o394) o451) o461 (fun k hk => lt_F (ownF_ge r393) (size_only O494) k (ownF_lt rS k hk))) o474 (fun k hk => lt_F (ownF_ge r460) (size_only O494) k (ownF_lt rS k hk))) o489)
                    have O497 : Only NoF w59 w114 := (Only.trans' O485 o118)
                    have sp496 : ∀ k, ownF (.slice As (LS.length) cs) k → ¬ Foot.all F126 k := sep_nexto sS (fun k hk => Nat.lt_of_lt_of_le (ownF_lt rS k hk) (size_only O497)) fm129 fr130
                    have O498 : Only NoF w w488 := (Only.trans' (o_sg (o_sg (Only.trans' (Only.trans' O492 o394) o451) o461 (size_only O492) (ownF_ge r393)) o474 (size_only O492) (ownF_ge r460)) o489)
                    have O499 : Only NoF w125 w449 := (Only.trans' (Only.trans' O493 o394) o451)
                    have T500 : (JT b21 g108 (Jn.append J109 D m82.s).1 (Jn.append J109 D m82.s).2.1) w488 F126 := ((jt_good _ _ _ _).only ((jt_good _ _ _ _).only ((jt_good _ _ _ _).only ((jt_good _ _ _ _).only h127 O499 (fun _ _ h => h)) o461 (fun k hk e => (fun k hk h => absurd ((jt_good _ _ _ _).lt h127 _ h) (Nat.not_lt.2 (Nat.le_trans (size_only O493) (ownF_ge r393 k hk)))) k e hk)) o474 (fun k hk e => (fun k hk h => absurd ((jt_good _ _ _ _).lt h127 _ h) (Nat.not_lt.2 (Nat.le_trans (size_only O493) (ownF_ge r460 k hk)))) k e hk)) o489 (fun _ _ h => h))
                    exact ⟨_, (by omega), i + 1, (Jn.append J109 D m82.s).1, some (g108, (Jn.append J109 D m82.s).2.1), (LA ++ [m82.s]), A469, c470, LS, As, cs, F126, rfl, Hz.cut ⟨rfl, rfl, rfl, rfl, rfl, rfl, rfl, rfl, trivial⟩, (by omega), hn134, (by rw [List.length_append, List.length_singleton]; omega), ok478, okS, O498, (ow_low r491 ((size_only O492))), (ow_low r495 (Nat.le_refl _)), T500, hge131, (fun k hk h => absurd ((jt_good _ _ _ _).lt h127 _ h) (Nat.not_lt.2 (Nat.le_trans (size_only O493) (ownF_ge r473 k hk)))), sp496⟩
                · -- 5 first
                  have hok501 : KStr.ok m82.s := by show List.length m82.s ≤ maxLen; have := (hfo.2 _ (List.mem_of_getElem? hm83)).1; unfold maxLen; omega
                  obtain ⟨A502, w503, hw, hA, r504, o505⟩ := Row.made (w := w388) KStr (e := 9) ([m82.s] : List Str) (by simp only [List.length_cons, List.length_nil]; unfold maxLen; omega)
                  refine Pl.MD (r_bs (z := strV ([])) (size := 1) (vs := [(0, strV (m82.s))]) (cs := List.flatMap KStr.cells [m82.s]) Tryd.underlying30 Tryd.sizeOf9 Tryd.zeroValue9 rfl (Fr.evalps Hz rfl) (by kernel_rfl)) Hz rfl rfl ?_ ?_
                  · rw [← hw]; exact ⟨fun _ => o505, (Only.trans (Only.refl NoF w388) o505 (fun _ h => h.elim))⟩
                  rw [← hw, ← hA]; clear Hz az; intro az Hz
                  clear hw hA
                  have ok506 : ∀ zq ∈ ([m82.s] : List Str), KStr.ok zq := by intro zq hx; simp only [List.mem_cons, List.not_mem_nil, or_false] at hx; rcases hx with rfl <;> first | exact hok501
                  obtain ⟨A507, w508, hw, hA, r509, o510⟩ := made0 (w := w503) (e := 9) (size := 1)
                  refine Pl.MD (r_bs0 Tryd.underlying30 Tryd.sizeOf9) Hz rfl rfl ?_ ?_
                  · rw [← hw]; exact ⟨fun h => absurd h (by decide), (Only.trans (Only.trans (Only.refl NoF w388) o505 (fun _ h => h.elim)) o510 (fun _ h => h.elim))⟩
                  rw [← hw, ← hA]; clear Hz az; intro az Hz
                  clear hw hA
                  have r512 := (ow_k (ow_k (ow_k (ow_k (ow_k (ow_only (ow_k (ow_only (ow_only (ow_k rA o70) s75 (fun k hk => lt_F (oneF_ge hg72) (Nat.le_refl _) k (ownF_lt rA k hk))) s90 (fun k hk => lt_F (oneF_ge hg72) (Nat.le_refl _) k (ownF_lt rA k hk))) o118) o128 (fun k hk hF => sA k hk (.inl hF))) o382) o387) o389) o505) o510)
                  have h511 := SliceOf.pl (Row.own KStr r512 okA)
                  have hb520 : (List.length (([] : List Str)) + List.length (LA)) * 16 ≤ 140737488355328 := by (simp only [List.length_append, List.length_cons, List.length_nil]; omega)
                  obtain ⟨A513, c514, w515, hr516, r517, o518, al519⟩ := Row.app (P := Tryd.prog) (l := ([] : List Str)) (l2 := LA) KStr elemStr r509 h511 hb520 (by unfold maxLen; omega) (size_only o510)
                  simp only [List.nil_append, List.append_nil] at hr516 r517 al519
                  refine Pl.MD (r_app hr516 Hz rfl rfl) Hz rfl rfl ?_ ?_
                  · exact ⟨fun h => absurd h (by decide), (Only.trans (Only.trans (Only.trans (Only.refl NoF w388) o505 (fun _ h => h.elim)) o510 (fun _ h => h.elim)) o518 (fun k h => .inr (Nat.le_trans (size_only o505) ((ownF_ge r509) k h))))⟩
                  clear Hz az; intro az Hz
                  have ok521 : ∀ zq ∈ LA, KStr.ok zq := (Row.oks KStr h511)
                  have h522 := Row.own KStr r517 ok521
                  have r524 := (ow_only (ow_k r504 o510) o518 (fun k hk => lt_F (ownF_ge r509) (Nat.le_refl _) k (ownF_lt r504 k hk)))
                  have h523 := SliceOf.pl (Row.own KStr r524 ok506)
                  have hb532 : (List.length (LA) + List.length ([m82.s])) * 16 ≤ 140737488355328 := by (simp only [List.length_append, List.length_cons, List.length_nil]; omega)
                  have O533 : Only NoF w503 w515 := (o_sg o510 o518 (Nat.le_refl _) (ownF_ge r509))
                  obtain ⟨A525, c526, w527, hr528, r529, o530, al531⟩ := Row.app (P := Tryd.prog) (l := LA) (l2 := [m82.s]) KStr elemStr r517 h523 hb532 (by unfold maxLen; omega) (size_only O533)
                  refine Pl.MD (r_app hr528 Hz rfl rfl) Hz rfl rfl ?_ ?_
                  · exact ⟨fun h => absurd h (by decide), (Only.trans (Only.trans (Only.trans (Only.trans (Only.refl NoF w388) o505 (fun _ h => h.elim)) o510 (fun _ h => h.elim)) o518 (fun k h => .inr (Nat.le_trans (size_only o505) ((ownF_ge r509) k h)))) o530 (fun k h => .inr (Nat.le_trans (size_only o505) ((ownF_ge r517) k h))))⟩
                  clear Hz az; intro az Hz
                  have ok534 : ∀ zq ∈ (LA ++ [m82.s]), KStr.ok zq := (fun x hx => (List.mem_append.1 hx).elim (ok521 x) ((Row.oks KStr h523) x))
                  have h535 := Row.own KStr r529 ok534
                  refine Pl.MSP (b := false) (by kernel_rfl) (fun W oW => r_as Hz rfl) Hz rfl rfl ?_
                  clear Hz az; intro az Hz
                  refine wpPl_nil ?_
                  refine hK384 _ _ ?_
                  refine wp_seq_k fun K536 hK536 => ?_
                  -- law.go:163
                  refine wp_region_lit ?_
                  refine L (r_mv Hz rfl) Hz rfl ?_
                  clear Hz az; intro az Hz
                  refine L (r_eqIl Hz rfl rfl (by decide)) Hz rfl ?_
                  clear Hz az; intro az Hz
                  refine L (r_mv Hz rfl) Hz rfl ?_
                  clear Hz az; intro az Hz
                  refine LF Hz rfl rfl rfl rfl ?_
                  clear Hz az; intro az Hz
                  refine LF Hz rfl rfl rfl rfl ?_
                  clear Hz az; intro az Hz
                  refine LF Hz rfl rfl rfl rfl ?_
                  clear Hz az; intro az Hz
                  refine LF Hz rfl rfl rfl rfl ?_
                  clear Hz az; intro az Hz
                  refine LF Hz rfl rfl rfl rfl ?_
                  clear Hz az; intro az Hz
                  refine LF Hz rfl rfl rfl rfl ?_
                  clear Hz az; intro az Hz
                  refine LF Hz rfl rfl rfl rfl ?_
                  clear Hz az; intro az Hz
                  refine LF Hz rfl rfl rfl rfl ?_
                  clear Hz az; intro az Hz
                  refine L (r_pick Hz rfl rfl rfl) Hz rfl ?_
                  clear Hz az; intro az Hz
                  refine L (r_mv Hz rfl) Hz rfl ?_
                  clear Hz az; intro az Hz
                  refine LT Hz rfl rfl (r_mv Hz rfl) rfl ?_
                  clear Hz az; intro az Hz
                  refine LT Hz rfl rfl (r_neIl Hz rfl rfl (by decide)) rfl ?_
                  clear Hz az; intro az Hz
                  refine LT Hz rfl rfl (r_mv Hz rfl) rfl ?_
                  clear Hz az; intro az Hz
                  refine LT Hz rfl rfl (r_mv Hz rfl) rfl ?_
                  clear Hz az; intro az Hz
                  refine LT Hz rfl rfl (r_mv Hz rfl) rfl ?_
                  clear Hz az; intro az Hz
                  have O538 : Only NoF w378 w503 := (Only.trans' (Only.trans' o387 o389) o505)
                  have r539 := (ow_only (ow_only (ow_k (ow_k (ow_k (ow_k r381 o387) o389) o505) o510) o518 (fun k hk => lt_F (ownF_ge r509) (size_only O538) k (ownF_lt r381 k hk))) o530 (fun k hk => lt_F (ownF_ge r517) (size_only O538) k (ownF_lt r381 k hk)))
                  have h537 := SliceOf.pl (Row.own KStr r539 okl383)
                  have O541 : Only NoF w59 w89 := (o_sg (o_sg o70 s75 (Nat.le_refl _) (oneF_ge hg72)) s90 (Nat.le_refl _) (oneF_ge hg72))
                  have O542 := (Only.trans (Only.trans (Only.trans (Only.trans (Only.trans (Only.refl (fun _ => True) w114) o128 (fun _ _ => .inl trivial)) o382 (fun _ _ => .inl trivial)) o387 (fun _ _ => .inl trivial)) o389 (fun _ _ => .inl trivial)) o505 (fun _ _ => .inl trivial))
                  have r543 := (ow_only (ow_only (ow_k (ow_k (ow_k (ow_k (ow_k (ow_only r117 o128 (fun k hk hF => (fun k hk h => absurd ((jo_good _ _ _).lt hT _ h) (Nat.not_lt.2 (Nat.le_trans (size_only O541) (ownF_ge r117 k hk)))) k hk (.inl hF))) o382) o387) o389) o505) o510) o518 (fun k hk => lt_F (ownF_ge r509) (size_only O542) k (ownF_lt r117 k hk))) o530 (fun k hk => lt_F (ownF_ge r517) (size_only O542) k (ownF_lt r117 k hk)))
                  have h540 := SliceOf.pl (Row.own KStr r543 okl119)
                  refine LGV (v := .bool (true)) Hz rfl rfl gd_t rfl (fun hb => rfl) Tryd.call20 (fun hb => fix_eq (congrArg Value.bool (decide_eq_true hl133)) (SameTexts_v h537 h540)) rfl fun w544 o545 => ?_
                  clear Hz az; intro az Hz
                  refine LT Hz rfl rfl (r_not Hz rfl) rfl ?_
                  clear Hz az; intro az Hz
                  refine LT Hz rfl rfl (r_pick Hz rfl rfl rfl) rfl ?_
                  clear Hz az; intro az Hz
                  refine L (r_pick Hz rfl rfl rfl) Hz rfl ?_
                  clear Hz az; intro az Hz
                  refine hK536 _ _ ?_
                  refine br_false Hz rfl ?_
                  refine wp_skip ?_
                  refine hK66 _ _ ?_
                  -- law.go:144
                  refine wp_region_lit ?_
                  refine L (r_mv Hz rfl) Hz rfl ?_
                  clear Hz az; intro az Hz
                  have i546 : I64 (((i : Int) + 1)) := by unfold I64; omega
                  refine L (r_addI (r := ((i : Int) + 1)) Hz rfl rfl rfl i546) Hz rfl ?_
                  clear Hz az; intro az Hz
                  refine L (r_as Hz rfl) Hz rfl ?_
                  clear Hz az; intro az Hz
                  have r547 := (ow_k r529 o545)
                  have O548 : Only NoF w w503 := (Only.trans' (Only.trans' (Only.trans' (Only.trans' (o_sg O123 o128 (Nat.le_refl _) (fun k h => hgeT k (.inl h))) o382) o387) o389) o505)
                  have O549 : Only NoF w125 w503 := (Only.trans' (Only.trans' (Only.trans' o382 o387) o389) o505)
                  have O550 := (Only.trans (Only.trans (Only.trans (Only.trans (Only.trans (Only.trans (Only.trans (Only.trans (Only.trans (Only.refl (fun _ => True) w59) o70 (fun _ _ => .inl trivial)) s75 (fun _ _ => .inl trivial)) s90 (fun _ _ => .inl trivial)) o118 (fun _ _ => .inl trivial)) o128 (fun _ _ => .inl trivial)) o382 (fun _ _ => .inl trivial)) o387 (fun _ _ => .inl trivial)) o389 (fun _ _ => .inl trivial)) o505 (fun _ _ => .inl trivial))
                  have r551 := (ow_k (ow_only (ow_only (ow_k (ow_k (ow_k (ow_k (ow_k (ow_only (ow_k (ow_only (ow_only (ow_k rS o70) s75 (fun k hk => lt_F (oneF_ge hg72) (Nat.le_refl _) k (ownF_lt rS k hk))) s90 (fun k hk => lt_F (oneF_ge hg72) (Nat.le_refl _) k (ownF_lt rS k hk))) o118) o128 (fun k hk hF => sS k hk (.inl hF))) o382) o387) o389) o505) o510) o518 (fun k hk => lt_F (ownF_ge r509) (size_only O550) k (ownF_lt rS k hk))) o530 (fun k hk => lt_F (ownF_ge r517) (size_only O550) k (ownF_lt rS k hk))) o545)
                  have O553 : Only NoF w59 w114 := (Only.trans' O541 o118)
                  have sp552 : ∀ k, ownF (.slice As (LS.length) cs) k → ¬ Foot.all F126 k := sep_nexto sS (fun k hk => Nat.lt_of_lt_of_le (ownF_lt rS k hk) (size_only O553)) fm129 fr130
                  have O554 : Only NoF w w544 := (Only.trans' (o_sg (o_sg (Only.trans' O548 o510) o518 (size_only O548) (ownF_ge r509)) o530 (size_only O548) (ownF_ge r517)) o545)
                  have O555 : Only NoF w125 w508 := (Only.trans' O549 o510)
                  have T556 : (JT b21 g108 (Jn.append J109 D m82.s).1 (Jn.append J109 D m82.s).2.1) w544 F126 := ((jt_good _ _ _ _).only ((jt_good _ _ _ _).only ((jt_good _ _ _ _).only ((jt_good _ _ _ _).only h127 O555 (fun _ _ h => h)) o518 (fun k hk e => (fun k hk h => absurd ((jt_good _ _ _ _).lt h127 _ h) (Nat.not_lt.2 (Nat.le_trans (size_only O549) (ownF_ge r509 k hk)))) k e hk)) o530 (fun k hk e => (fun k hk h => absurd ((jt_good _ _ _ _).lt h127 _ h) (Nat.not_lt.2 (Nat.le_trans (size_only O549) (ownF_ge r517 k hk)))) k e hk)) o545 (fun _ _ h => h))
                  exact ⟨_, (by omega), i + 1, (Jn.append J109 D m82.s).1, some (g108, (Jn.append J109 D m82.s).2.1), (LA ++ [m82.s]), A525, c526, LS, As, cs, F126, rfl, Hz.cut ⟨rfl, rfl, rfl, rfl, rfl, rfl, rfl, rfl, trivial⟩, (by omega), hn134, (by rw [List.length_append, List.length_singleton]; omega), ok534, okS, O554, (ow_low r547 ((size_only O548))), (ow_low r551 (Nat.le_refl _)), T556, hge131, (fun k hk h => absurd ((jt_good _ _ _ _).lt h127 _ h) (Nat.not_lt.2 (Nat.le_trans (size_only O549) (ownF_ge r529 k hk)))), sp552⟩
              · -- a case
                rw [he132] at Hz
                refine L (r_as Hz rfl) Hz rfl ?_
                clear Hz az; intro az Hz
                refine hK120 _ _ ?_
                refine wp_seq_k fun K557 hK557 => ?_
                -- law.go:159
                refine wp_region_lit ?_
                refine L (r_mv Hz rfl) Hz rfl ?_
                clear Hz az; intro az Hz
                have okl563 := okB (BothT.l (X := JB b21 g108 ((Jn.append J109 D m82.s).2.1)) h127)
                refine LC Hz rfl rfl Tryd.call10 (all_b (BothT.l (X := JB b21 g108 ((Jn.append J109 D m82.s).2.1)) h127) (by rw [hl133]; exact Nat.le_trans (linv_n hL (by omega)).2 (by decide))) rfl ?_
                rintro e w558 ⟨A559, c560, rfl, r561, o562⟩; refine ⟨_, rfl, ?_⟩
                clear Hz az; intro az Hz
                refine L (r_as Hz rfl) Hz rfl ?_
                clear Hz az; intro az Hz
                refine hK557 _ _ ?_
                refine wp_seq_k fun K564 hK564 => ?_
                refine wp_seq_k fun K565 hK565 => ?_
                -- law.go:160
                refine wp_region_lit ?_
                refine L (r_mv Hz rfl) Hz rfl ?_
                clear Hz az; intro az Hz
                refine L (r_eqIl Hz rfl rfl (by decide)) Hz rfl ?_
                clear Hz az; intro az Hz
                refine L (r_mv Hz rfl) Hz rfl ?_
                clear Hz az; intro az Hz
                refine LT Hz rfl rfl (r_mv Hz rfl) rfl ?_
                clear Hz az; intro az Hz
                refine LGV (v := .bool (false)) Hz rfl rfl gd_f rfl (fun hb => rfl) Tryd.call29 (fun hb => fix_eq (congrArg Value.bool (by decide)) (disky_v _ 7)) rfl fun w566 o567 => ?_
                clear Hz az; intro az Hz
                refine L (r_pick Hz rfl rfl rfl) Hz rfl ?_
                clear Hz az; intro az Hz
                refine hK565 _ _ ?_
                refine br_false Hz rfl ?_
                refine wp_skip ?_
                refine hK564 _ _ ?_
                refine wp_seq_k fun K568 hK568 => ?_
                -- law.go:163
                refine wp_region_lit ?_
                refine L (r_mv Hz rfl) Hz rfl ?_
                clear Hz az; intro az Hz
                refine L (r_eqIl Hz rfl rfl (by decide)) Hz rfl ?_
                clear Hz az; intro az Hz
                refine L (r_mv Hz rfl) Hz rfl ?_
                clear Hz az; intro az Hz
                refine LF Hz rfl rfl rfl rfl ?_
                clear Hz az; intro az Hz
                refine LF Hz rfl rfl rfl rfl ?_
                clear Hz az; intro az Hz
                refine LF Hz rfl rfl rfl rfl ?_
                clear Hz az; intro az Hz
                refine LF Hz rfl rfl rfl rfl ?_
                clear Hz az; intro az Hz
                refine LF Hz rfl rfl rfl rfl ?_
                clear Hz az; intro az Hz
                refine LF Hz rfl rfl rfl rfl ?_
                clear Hz az; intro az Hz
                refine LF Hz rfl rfl rfl rfl ?_
                clear Hz az; intro az Hz
                refine LF Hz rfl rfl rfl rfl ?_
                clear Hz az; intro az Hz
                refine L (r_pick Hz rfl rfl rfl) Hz rfl ?_
                clear Hz az; intro az Hz
                refine L (r_mv Hz rfl) Hz rfl ?_
                clear Hz az; intro az Hz
                refine LT Hz rfl rfl (r_mv Hz rfl) rfl ?_
                clear Hz az; intro az Hz
                refine LT Hz rfl rfl (r_neIl Hz rfl rfl (by decide)) rfl ?_
                clear Hz az; intro az Hz
                refine LT Hz rfl rfl (r_mv Hz rfl) rfl ?_
                clear Hz az; intro az Hz
                refine LT Hz rfl rfl (r_mv Hz rfl) rfl ?_
                clear Hz az; intro az Hz
                refine LT Hz rfl rfl (r_mv Hz rfl) rfl ?_
                clear Hz az; intro az Hz
                have r570 := (ow_k r561 o567)
                have h569 := SliceOf.pl (Row.own KStr r570 okl563)
                have O572 : Only NoF w59 w89 := (o_sg (o_sg o70 s75 (Nat.le_refl _) (oneF_ge hg72)) s90 (Nat.le_refl _) (oneF_ge hg72))
                have r573 := (ow_k (ow_k (ow_only r117 o128 (fun k hk hF => (fun k hk h => absurd ((jo_good _ _ _).lt hT _ h) (Nat.not_lt.2 (Nat.le_trans (size_only O572) (ownF_ge r117 k hk)))) k hk (.inl hF))) o562) o567)
                have h571 := SliceOf.pl (Row.own KStr r573 okl119)
                refine LGV (v := .bool (true)) Hz rfl rfl gd_t rfl (fun hb => rfl) Tryd.call20 (fun hb => fix_eq (congrArg Value.bool (decide_eq_true hl133)) (SameTexts_v h569 h571)) rfl fun w574 o575 => ?_
                clear Hz az; intro az Hz
                refine LT Hz rfl rfl (r_not Hz rfl) rfl ?_
                clear Hz az; intro az Hz
                refine LT Hz rfl rfl (r_pick Hz rfl rfl rfl) rfl ?_
                clear Hz az; intro az Hz
                refine L (r_pick Hz rfl rfl rfl) Hz rfl ?_
                clear Hz az; intro az Hz
                refine hK568 _ _ ?_
                refine br_false Hz rfl ?_
                refine wp_skip ?_
                refine hK66 _ _ ?_
                -- law.go:144
                refine wp_region_lit ?_
                refine L (r_mv Hz rfl) Hz rfl ?_
                clear Hz az; intro az Hz
                have i576 : I64 (((i : Int) + 1)) := by unfold I64; omega
                refine L (r_addI (r := ((i : Int) + 1)) Hz rfl rfl rfl i576) Hz rfl ?_
                clear Hz az; intro az Hz
                refine L (r_as Hz rfl) Hz rfl ?_
                clear Hz az; intro az Hz
                have r577 := (ow_k (ow_k (ow_k (ow_only (ow_k (ow_only (ow_only (ow_k rA o70) s75 (fun k hk => lt_F (oneF_ge hg72) (Nat.le_refl _) k (ownF_lt rA k hk))) s90 (fun k hk => lt_F (oneF_ge hg72) (Nat.le_refl _) k (ownF_lt rA k hk))) o118) o128 (fun k hk hF => sA k hk (.inl hF))) o562) o567) o575)
                have O579 : Only NoF w59 w114 := (Only.trans' O572 o118)
                have sp578 : ∀ k, ownF (.slice Aa (LA.length) ca) k → ¬ Foot.all F126 k := sep_nexto sA (fun k hk => Nat.lt_of_lt_of_le (ownF_lt rA k hk) (size_only O579)) fm129 fr130
                have r580 := (ow_k (ow_k (ow_k (ow_only (ow_k (ow_only (ow_only (ow_k rS o70) s75 (fun k hk => lt_F (oneF_ge hg72) (Nat.le_refl _) k (ownF_lt rS k hk))) s90 (fun k hk => lt_F (oneF_ge hg72) (Nat.le_refl _) k (ownF_lt rS k hk))) o118) o128 (fun k hk hF => sS k hk (.inl hF))) o562) o567) o575)
                have sp581 : ∀ k, ownF (.slice As (LS.length) cs) k → ¬ Foot.all F126 k := sep_nexto sS (fun k hk => Nat.lt_of_lt_of_le (ownF_lt rS k hk) (size_only O579)) fm129 fr130
                have O582 : Only NoF w w574 := (Only.trans' (Only.trans' (Only.trans' (o_sg O123 o128 (Nat.le_refl _) (fun k h => hgeT k (.inl h))) o562) o567) o575)
                have O583 : Only NoF w125 w574 := (Only.trans' (Only.trans' o562 o567) o575)
                have T584 : (JT b21 g108 (Jn.append J109 D m82.s).1 (Jn.append J109 D m82.s).2.1) w574 F126 := ((jt_good _ _ _ _).only h127 O583 (fun _ _ h => h))
                exact ⟨_, (by omega), i + 1, (Jn.append J109 D m82.s).1, some (g108, (Jn.append J109 D m82.s).2.1), LA, Aa, ca, LS, As, cs, F126, rfl, Hz.cut ⟨rfl, rfl, rfl, rfl, rfl, rfl, rfl, rfl, trivial⟩, (by omega), hn134, (by omega), okA, okS, O582, (ow_low r577 (Nat.le_refl _)), (ow_low r580 (Nat.le_refl _)), T584, hge131, sp578, sp581⟩
          · -- else5
            have p585 := of_decide_eq_false hc94
            refine wp_seq_k fun K586 hK586 => ?_
            -- law.go:166
            refine wp_region_lit ?_
            refine L (r_eqI Hz rfl rfl) Hz rfl ?_
            clear Hz az; intro az Hz
            refine L (r_as Hz rfl) Hz rfl ?_
            clear Hz az; intro az Hz
            refine hK586 _ _ ?_
            refine br Hz rfl (fun hc587 => ?_) (fun hc587 => ?_)
            · -- if9
              have p588 := of_decide_eq_true hc587
              refine wp_seq_k fun K589 hK589 => ?_
              refine wp_seq_k fun K590 hK590 => ?_
              -- law.go:167
              refine wp_region_lit ?_
              refine L (r_mv Hz rfl) Hz rfl ?_
              clear Hz az; intro az Hz
              refine L (r_eqJ Tryd.underlying27 Hz rfl rfl) Hz rfl ?_
              clear Hz az; intro az Hz
              refine hK590 _ _ ?_
              refine br Hz rfl (fun hc591 => ?_) (fun hc591 => ?_)
              · -- if10
                have q592 : oj.isSome = false := (nt_t hc591)
                have hj593 := isS_f q592; subst hj593
                have T595 : (JO b21 D none) w89 F := ((jo_good _ _ _).only ((jo_good _ _ _).only ((jo_good _ _ _).only hT o70 (fun _ _ h => h)) s75 (fun k hk (e : k = g68) => (fun h => absurd ((jo_good _ _ _).lt hT _ h) (Nat.not_lt.2 (Nat.le_trans (Nat.le_refl _) hg72))) (by rw [← e]; exact hk))) s90 (fun k hk (e : k = g68) => (fun h => absurd ((jo_good _ _ _).lt hT _ h) (Nat.not_lt.2 (Nat.le_trans (Nat.le_refl _) hg72))) (by rw [← e]; exact hk)))
                have h594 : (DiskT b21 D) w89 F := T595
                refine wp_exit ?_
                refine th_exit ?_
                refine ib_miss rfl ?_
                refine ib_hit ?_
                refine hK66 _ _ ?_
                -- law.go:144
                refine wp_region_lit ?_
                refine L (r_mv Hz rfl) Hz rfl ?_
                clear Hz az; intro az Hz
                have i596 : I64 (((i : Int) + 1)) := by unfold I64; omega
                refine L (r_addI (r := ((i : Int) + 1)) Hz rfl rfl rfl i596) Hz rfl ?_
                clear Hz az; intro az Hz
                refine L (r_as Hz rfl) Hz rfl ?_
                clear Hz az; intro az Hz
                have r597 := (ow_only (ow_only (ow_k rA o70) s75 (fun k hk => lt_F (oneF_ge hg72) (Nat.le_refl _) k (ownF_lt rA k hk))) s90 (fun k hk => lt_F (oneF_ge hg72) (Nat.le_refl _) k (ownF_lt rA k hk)))
                have r598 := (ow_only (ow_only (ow_k rS o70) s75 (fun k hk => lt_F (oneF_ge hg72) (Nat.le_refl _) k (ownF_lt rS k hk))) s90 (fun k hk => lt_F (oneF_ge hg72) (Nat.le_refl _) k (ownF_lt rS k hk)))
                have O599 : Only NoF w w89 := (o_sg O87 s90 (size_only o60) (oneF_ge hg72))
                exact ⟨_, (by omega), i + 1, D, none, LA, Aa, ca, LS, As, cs, F, rfl, Hz.cut ⟨rfl, rfl, rfl, rfl, rfl, rfl, rfl, rfl, trivial⟩, (by omega), (LInv.mono hL), (by omega), okA, okS, O599, (ow_low r597 (Nat.le_refl _)), (ow_low r598 (Nat.le_refl _)), T595, hgeT, sA, sS⟩
              · -- else10
                have q600 : oj.isSome = true := (nt_f hc591)
                obtain ⟨g601, J602, hj603⟩ := isS_t q600; subst hj603
                have T605 : (JO b21 D (some (g601, J602))) w89 F := ((jo_good _ _ _).only ((jo_good _ _ _).only ((jo_good _ _ _).only hT o70 (fun _ _ h => h)) s75 (fun k hk (e : k = g68) => (fun h => absurd ((jo_good _ _ _).lt hT _ h) (Nat.not_lt.2 (Nat.le_trans (Nat.le_refl _) hg72))) (by rw [← e]; exact hk))) s90 (fun k hk (e : k = g68) => (fun h => absurd ((jo_good _ _ _).lt hT _ h) (Nat.not_lt.2 (Nat.le_trans (Nat.le_refl _) hg72))) (by rw [← e]; exact hk)))
                have h604 : (JT b21 g601 D J602) w89 F := T605
                refine wp_skip ?_
                refine hK589 _ _ ?_
                refine wp_seq_k fun K606 hK606 => ?_
                -- law.go:170
                refine wp_region_lit ?_
                refine L (r_mv Hz rfl) Hz rfl ?_
                clear Hz az; intro az Hz
                have O608 : Only NoF w w89 := (o_sg O87 s90 (size_only o60) (oneF_ge hg72))
                have G607 := Gr.k hG O608
                refine LC Hz rfl rfl Tryd.call24 (sync_o G607 h604 (fun k hk => Nat.le_trans (Nat.le_trans hG.1 (Nat.le_refl _)) (hgeT k (.inl hk)))) rfl ?_
                rintro e w609 ⟨rfl, F610, h611, o612, fm613, fr614⟩; refine ⟨_, rfl, ?_⟩
                have hge615 := ge_next hgeT (size_only O608) fm613 fr614
                clear Hz az; intro az Hz
                have hx616 := lasts_sync (J := J602) hL
                refine L (r_eqI Hz rfl rfl) Hz rfl ?_
                clear Hz az; intro az Hz
                refine hK606 _ _ ?_
                refine br Hz rfl (fun hc617 => ?_) (fun hc617 => ?_)
                · -- if11
                  have p618 := of_decide_eq_true hc617
                  -- law.go:171
                  refine wp_region_lit ?_
                  refine L (r_mv Hz rfl) Hz rfl ?_
                  clear Hz az; intro az Hz
                  have okl624 := okB (BothT.l (X := JB b21 g601 ((Jn.sync J602 D).2.1)) h611)
                  refine LC Hz rfl rfl Tryd.call10 (all_b (BothT.l (X := JB b21 g601 ((Jn.sync J602 D).2.1)) h611) (by rw [hx616.2.2]; exact Nat.le_trans (linv_n hL (by omega)).2 (by decide))) rfl ?_
                  rintro e w619 ⟨A620, c621, rfl, r622, o623⟩; refine ⟨_, rfl, ?_⟩
                  clear Hz az; intro az Hz
                  refine L (r_as Hz rfl) Hz rfl ?_
                  clear Hz az; intro az Hz
                  refine hK66 _ _ ?_
                  -- law.go:144
                  refine wp_region_lit ?_
                  refine L (r_mv Hz rfl) Hz rfl ?_
                  clear Hz az; intro az Hz
                  have i625 : I64 (((i : Int) + 1)) := by unfold I64; omega
                  refine L (r_addI (r := ((i : Int) + 1)) Hz rfl rfl rfl i625) Hz rfl ?_
                  clear Hz az; intro az Hz
                  refine L (r_as Hz rfl) Hz rfl ?_
                  clear Hz az; intro az Hz
                  have r626 := (ow_k (ow_only (ow_only (ow_only (ow_k rA o70) s75 (fun k hk => lt_F (oneF_ge hg72) (Nat.le_refl _) k (ownF_lt rA k hk))) s90 (fun k hk => lt_F (oneF_ge hg72) (Nat.le_refl _) k (ownF_lt rA k hk))) o612 (fun k hk hF => sA k hk (.inl hF))) o623)
                  have O628 : Only NoF w59 w89 := (o_sg (o_sg o70 s75 (Nat.le_refl _) (oneF_ge hg72)) s90 (Nat.le_refl _) (oneF_ge hg72))
                  have sp627 : ∀ k, ownF (.slice Aa (LA.length) ca) k → ¬ Foot.all F610 k := sep_nexto sA (fun k hk => Nat.lt_of_lt_of_le (ownF_lt rA k hk) (size_only O628)) fm613 fr614
                  have O629 : Only NoF w w609 := (o_sg O608 o612 (Nat.le_refl _) (fun k h => hgeT k (.inl h)))
                  have O630 : Only NoF w w619 := (Only.trans' O629 o623)
                  have T631 : (JT b21 g601 (Jn.sync J602 D).1 (Jn.sync J602 D).2.1) w619 F610 := ((jt_good _ _ _ _).only h611 o623 (fun _ _ h => h))
                  exact ⟨_, (by omega), i + 1, (Jn.sync J602 D).1, some (g601, (Jn.sync J602 D).2.1), LA, Aa, ca, ((Jn.sync J602 D).2.1).l, A620, c621, F610, rfl, Hz.cut ⟨rfl, rfl, rfl, rfl, rfl, rfl, rfl, rfl, trivial⟩, (by omega), (LInv.mono (hx616.1 (of_decide_eq_true hc617))), (by omega), okA, okl624, O630, (ow_low r626 (Nat.le_refl _)), (ow_low r622 ((size_only O629))), T631, hge615, sp627, (fun k hk h => absurd ((jt_good _ _ _ _).lt h611 _ h) (Nat.not_lt.2 (Nat.le_trans (Nat.le_refl _) (ownF_ge r622 k hk))))⟩
                · -- else11
                  have p632 := of_decide_eq_false hc617
                  refine wp_skip ?_
                  refine hK66 _ _ ?_
                  -- law.go:144
                  refine wp_region_lit ?_
                  refine L (r_mv Hz rfl) Hz rfl ?_
                  clear Hz az; intro az Hz
                  have i633 : I64 (((i : Int) + 1)) := by unfold I64; omega
                  refine L (r_addI (r := ((i : Int) + 1)) Hz rfl rfl rfl i633) Hz rfl ?_
                  clear Hz az; intro az Hz
                  refine L (r_as Hz rfl) Hz rfl ?_
                  clear Hz az; intro az Hz
                  have r634 := (ow_only (ow_only (ow_only (ow_k rA o70) s75 (fun k hk => lt_F (oneF_ge hg72) (Nat.le_refl _) k (ownF_lt rA k hk))) s90 (fun k hk => lt_F (oneF_ge hg72) (Nat.le_refl _) k (ownF_lt rA k hk))) o612 (fun k hk hF => sA k hk (.inl hF)))
                  have O636 : Only NoF w59 w89 := (o_sg (o_sg o70 s75 (Nat.le_refl _) (oneF_ge hg72)) s90 (Nat.le_refl _) (oneF_ge hg72))
                  have sp635 : ∀ k, ownF (.slice Aa (LA.length) ca) k → ¬ Foot.all F610 k := sep_nexto sA (fun k hk => Nat.lt_of_lt_of_le (ownF_lt rA k hk) (size_only O636)) fm613 fr614
                  have r637 := (ow_only (ow_only (ow_only (ow_k rS o70) s75 (fun k hk => lt_F (oneF_ge hg72) (Nat.le_refl _) k (ownF_lt rS k hk))) s90 (fun k hk => lt_F (oneF_ge hg72) (Nat.le_refl _) k (ownF_lt rS k hk))) o612 (fun k hk hF => sS k hk (.inl hF)))
                  have sp638 : ∀ k, ownF (.slice As (LS.length) cs) k → ¬ Foot.all F610 k := sep_nexto sS (fun k hk => Nat.lt_of_lt_of_le (ownF_lt rS k hk) (size_only O636)) fm613 fr614
                  have O639 : Only NoF w w609 := (o_sg O608 o612 (Nat.le_refl _) (fun k h => hgeT k (.inl h)))
                  exact ⟨_, (by omega), i + 1, (Jn.sync J602 D).1, some (g601, (Jn.sync J602 D).2.1), LA, Aa, ca, LS, As, cs, F610, rfl, Hz.cut ⟨rfl, rfl, rfl, rfl, rfl, rfl, rfl, rfl, trivial⟩, (by omega), (LInv.mono (hx616.2.1 (of_decide_eq_false hc617))), (by omega), okA, okS, O639, (ow_low r634 (Nat.le_refl _)), (ow_low r637 (Nat.le_refl _)), h611, hge615, sp635, sp638⟩
            · -- else9
              have p640 := of_decide_eq_false hc587
              refine wp_seq_k fun K641 hK641 => ?_
              -- law.go:173
              refine wp_region_lit ?_
              refine L (r_eqI Hz rfl rfl) Hz rfl ?_
              clear Hz az; intro az Hz
              refine L (r_as Hz rfl) Hz rfl ?_
              clear Hz az; intro az Hz
              refine hK641 _ _ ?_
              refine br Hz rfl (fun hc642 => ?_) (fun hc642 => ?_)
              · -- if12
                have p643 := of_decide_eq_true hc642
                -- law.go:174
                refine wp_region_lit ?_
                refine L (r_mv Hz rfl) Hz rfl ?_
                clear Hz az; intro az Hz
                refine L (r_fa (m' := 2) Tryd.underlying49 rfl Tryd.sizeOf3 rfl Hz rfl rfl) Hz rfl ?_
                clear Hz az; intro az Hz
                refine L (r_ld Tryd.isAgg3 Hz rfl ((Blk.ca B91) 2 _ rfl)) Hz rfl ?_
                clear Hz az; intro az Hz
                have T644 : (JO b21 D oj) w89 F := ((jo_good _ _ _).only ((jo_good _ _ _).only ((jo_good _ _ _).only hT o70 (fun _ _ h => h)) s75 (fun k hk (e : k = g68) => (fun h => absurd ((jo_good _ _ _).lt hT _ h) (Nat.not_lt.2 (Nat.le_trans (Nat.le_refl _) hg72))) (by rw [← e]; exact hk))) s90 (fun k hk (e : k = g68) => (fun h => absurd ((jo_good _ _ _).lt hT _ h) (Nat.not_lt.2 (Nat.le_trans (Nat.le_refl _) hg72))) (by rw [← e]; exact hk)))
                refine LC Hz rfl rfl Tryd.call25 (lose_o (n := m82.n) (show JO b21 D oj w89 F from T644) ok84.2.2.1) rfl ?_
                rintro e w645 ⟨rfl, F646, h647, o648, fm649, fr650⟩; refine ⟨_, rfl, ?_⟩
                have O651 : Only NoF w w89 := (o_sg O87 s90 (size_only o60) (oneF_ge hg72))
                have hge652 := ge_next hgeT (size_only O651) fm649 fr650
                clear Hz az; intro az Hz
                have hL653 := (LInv.lose (n := m82.n) hL ok84.2.2.1)
                refine hK66 _ _ ?_
                -- law.go:144
                refine wp_region_lit ?_
                refine L (r_mv Hz rfl) Hz rfl ?_
                clear Hz az; intro az Hz
                have i654 : I64 (((i : Int) + 1)) := by unfold I64; omega
                refine L (r_addI (r := ((i : Int) + 1)) Hz rfl rfl rfl i654) Hz rfl ?_
                clear Hz az; intro az Hz
                refine L (r_as Hz rfl) Hz rfl ?_
                clear Hz az; intro az Hz
                have r655 := (ow_only (ow_only (ow_only (ow_k rA o70) s75 (fun k hk => lt_F (oneF_ge hg72) (Nat.le_refl _) k (ownF_lt rA k hk))) s90 (fun k hk => lt_F (oneF_ge hg72) (Nat.le_refl _) k (ownF_lt rA k hk))) o648 (fun k hk hF => sA k hk (.inl hF)))
                have O657 : Only NoF w59 w89 := (o_sg (o_sg o70 s75 (Nat.le_refl _) (oneF_ge hg72)) s90 (Nat.le_refl _) (oneF_ge hg72))
                have sp656 : ∀ k, ownF (.slice Aa (LA.length) ca) k → ¬ Foot.all F646 k := sep_nexto sA (fun k hk => Nat.lt_of_lt_of_le (ownF_lt rA k hk) (size_only O657)) fm649 fr650
                have r658 := (ow_only (ow_only (ow_only (ow_k rS o70) s75 (fun k hk => lt_F (oneF_ge hg72) (Nat.le_refl _) k (ownF_lt rS k hk))) s90 (fun k hk => lt_F (oneF_ge hg72) (Nat.le_refl _) k (ownF_lt rS k hk))) o648 (fun k hk hF => sS k hk (.inl hF)))
                have sp659 : ∀ k, ownF (.slice As (LS.length) cs) k → ¬ Foot.all F646 k := sep_nexto sS (fun k hk => Nat.lt_of_lt_of_le (ownF_lt rS k hk) (size_only O657)) fm649 fr650
                have O660 : Only NoF w w645 := (o_sg O651 o648 (Nat.le_refl _) (fun k h => hgeT k (.inl h)))
                exact ⟨_, (by omega), i + 1, (Dsk.lose D m82.n), oj, LA, Aa, ca, LS, As, cs, F646, rfl, Hz.cut ⟨rfl, rfl, rfl, rfl, rfl, rfl, rfl, rfl, trivial⟩, (by omega), (LInv.mono hL653), (by omega), okA, okS, O660, (ow_low r655 (Nat.le_refl _)), (ow_low r658 (Nat.le_refl _)), h647, hge652, sp656, sp659⟩
              · -- else12
                have p661 := of_decide_eq_false hc642
                refine wp_seq_k fun K662 hK662 => ?_
                -- law.go:175
                refine wp_region_lit ?_
                refine L (r_eqI Hz rfl rfl) Hz rfl ?_
                clear Hz az; intro az Hz
                refine L (r_as Hz rfl) Hz rfl ?_
                clear Hz az; intro az Hz
                refine hK662 _ _ ?_
                refine br Hz rfl (fun hc663 => ?_) (fun hc663 => ?_)
                · -- if13
                  have p664 := of_decide_eq_true hc663
                  -- law.go:176
                  refine wp_region_lit ?_
                  refine L (r_mv Hz rfl) Hz rfl ?_
                  clear Hz az; intro az Hz
                  refine L (r_fa (m' := 2) Tryd.underlying49 rfl Tryd.sizeOf3 rfl Hz rfl rfl) Hz rfl ?_
                  clear Hz az; intro az Hz
                  refine L (r_ld Tryd.isAgg3 Hz rfl ((Blk.ca B91) 2 _ rfl)) Hz rfl ?_
                  clear Hz az; intro az Hz
                  refine L (r_fa (m' := 3) Tryd.underlying49 rfl Tryd.sizeOf45 rfl Hz rfl rfl) Hz rfl ?_
                  clear Hz az; intro az Hz
                  refine L (r_ld Tryd.isAgg45 Hz rfl ((Blk.ca B91) 3 _ rfl)) Hz rfl ?_
                  clear Hz az; intro az Hz
                  have T665 : (JO b21 D oj) w89 F := ((jo_good _ _ _).only ((jo_good _ _ _).only ((jo_good _ _ _).only hT o70 (fun _ _ h => h)) s75 (fun k hk (e : k = g68) => (fun h => absurd ((jo_good _ _ _).lt hT _ h) (Nat.not_lt.2 (Nat.le_trans (Nat.le_refl _) hg72))) (by rw [← e]; exact hk))) s90 (fun k hk (e : k = g68) => (fun h => absurd ((jo_good _ _ _).lt hT _ h) (Nat.not_lt.2 (Nat.le_trans (Nat.le_refl _) hg72))) (by rw [← e]; exact hk)))
                  have O666 : Only NoF w w89 := (o_sg O87 s90 (size_only o60) (oneF_ge hg72))
                  refine LC Hz rfl rfl Tryd.call28 (arm_o (n := m82.n) (show JO b21 D oj w89 F from T665) ok84.2.2.2 O666 (by have := (hfo.2 _ (List.mem_of_getElem? hm83)).2; omega) ok84.2.2.1) rfl ?_
                  rintro e w667 ⟨rfl, F668, h669, o670, fm671, fr672⟩; refine ⟨_, rfl, ?_⟩
                  have hge673 := ge_next hgeT (size_only O666) fm671 fr672
                  clear Hz az; intro az Hz
                  have hL674 := (LInv.arm (n := m82.n) (keep := m82.l) hL ok84.2.2.1 (by have := (hfo.2 _ (List.mem_of_getElem? hm83)).2; omega))
                  refine hK66 _ _ ?_
                  -- law.go:144
                  refine wp_region_lit ?_
                  refine L (r_mv Hz rfl) Hz rfl ?_
                  clear Hz az; intro az Hz
                  have i675 : I64 (((i : Int) + 1)) := by unfold I64; omega
                  refine L (r_addI (r := ((i : Int) + 1)) Hz rfl rfl rfl i675) Hz rfl ?_
                  clear Hz az; intro az Hz
                  refine L (r_as Hz rfl) Hz rfl ?_
                  clear Hz az; intro az Hz
                  have r676 := (ow_only (ow_only (ow_only (ow_k rA o70) s75 (fun k hk => lt_F (oneF_ge hg72) (Nat.le_refl _) k (ownF_lt rA k hk))) s90 (fun k hk => lt_F (oneF_ge hg72) (Nat.le_refl _) k (ownF_lt rA k hk))) o670 (fun k hk hF => sA k hk (.inl hF)))
                  have O678 : Only NoF w59 w89 := (o_sg (o_sg o70 s75 (Nat.le_refl _) (oneF_ge hg72)) s90 (Nat.le_refl _) (oneF_ge hg72))
                  have sp677 : ∀ k, ownF (.slice Aa (LA.length) ca) k → ¬ Foot.all F668 k := sep_nexto sA (fun k hk => Nat.lt_of_lt_of_le (ownF_lt rA k hk) (size_only O678)) fm671 fr672
                  have r679 := (ow_only (ow_only (ow_only (ow_k rS o70) s75 (fun k hk => lt_F (oneF_ge hg72) (Nat.le_refl _) k (ownF_lt rS k hk))) s90 (fun k hk => lt_F (oneF_ge hg72) (Nat.le_refl _) k (ownF_lt rS k hk))) o670 (fun k hk hF => sS k hk (.inl hF)))
                  have sp680 : ∀ k, ownF (.slice As (LS.length) cs) k → ¬ Foot.all F668 k := sep_nexto sS (fun k hk => Nat.lt_of_lt_of_le (ownF_lt rS k hk) (size_only O678)) fm671 fr672
                  have O681 : Only NoF w w667 := (o_sg O666 o670 (Nat.le_refl _) (fun k h => hgeT k (.inl h)))
                  exact ⟨_, (by omega), i + 1, (Dsk.arm D m82.n m82.l), oj, LA, Aa, ca, LS, As, cs, F668, rfl, Hz.cut ⟨rfl, rfl, rfl, rfl, rfl, rfl, rfl, rfl, trivial⟩, (by omega), (LInv.mono hL674), (by omega), okA, okS, O681, (ow_low r676 (Nat.le_refl _)), (ow_low r679 (Nat.le_refl _)), h669, hge673, sp677, sp680⟩
                · -- else13
                  have p682 := of_decide_eq_false hc663
                  refine wp_seq_k fun K683 hK683 => ?_
                  refine wp_seq_k fun K684 hK684 => ?_
                  -- law.go:177
                  refine wp_region_lit ?_
                  refine L (r_eqI Hz rfl rfl) Hz rfl ?_
                  clear Hz az; intro az Hz
                  refine L (r_as Hz rfl) Hz rfl ?_
                  clear Hz az; intro az Hz
                  refine hK684 _ _ ?_
                  refine br Hz rfl (fun hc685 => ?_) (fun hc685 => ?_)
                  · -- if14
                    have p686 := of_decide_eq_true hc685
                    refine wp_skip ?_
                    refine hK683 _ _ ?_
                    refine br Hz rfl (fun hc687 => ?_) (fun hc687 => ?_)
                    · -- if15
                      have p688 := of_decide_eq_true hc687
                      refine wp_seq_k fun K689 hK689 => ?_
                      refine wp_seq_k fun K690 hK690 => ?_
                      -- law.go:178
                      refine wp_region_lit ?_
                      refine L (r_fa (m' := 0) Tryd.underlying49 rfl Tryd.sizeOf3 rfl Hz rfl rfl) Hz rfl ?_
                      clear Hz az; intro az Hz
                      refine L (r_ld Tryd.isAgg3 Hz rfl ((Blk.ca B91) 0 _ rfl)) Hz rfl ?_
                      clear Hz az; intro az Hz
                      refine L (r_eqI Hz rfl rfl) Hz rfl ?_
                      clear Hz az; intro az Hz
                      refine hK690 _ _ ?_
                      refine br Hz rfl (fun hc691 => ?_) (fun hc691 => ?_)
                      · -- if16
                        have p692 := of_decide_eq_true hc691
                        -- law.go:179
                        refine wp_region_lit ?_
                        refine L (r_mv Hz rfl) Hz rfl ?_
                        clear Hz az; intro az Hz
                        refine L (r_fa (m' := 3) Tryd.underlying49 rfl Tryd.sizeOf45 rfl Hz rfl rfl) Hz rfl ?_
                        clear Hz az; intro az Hz
                        refine L (r_ld Tryd.isAgg45 Hz rfl ((Blk.ca B91) 3 _ rfl)) Hz rfl ?_
                        clear Hz az; intro az Hz
                        have T693 : (JO b21 D oj) w89 F := ((jo_good _ _ _).only ((jo_good _ _ _).only ((jo_good _ _ _).only hT o70 (fun _ _ h => h)) s75 (fun k hk (e : k = g68) => (fun h => absurd ((jo_good _ _ _).lt hT _ h) (Nat.not_lt.2 (Nat.le_trans (Nat.le_refl _) hg72))) (by rw [← e]; exact hk))) s90 (fun k hk (e : k = g68) => (fun h => absurd ((jo_good _ _ _).lt hT _ h) (Nat.not_lt.2 (Nat.le_trans (Nat.le_refl _) hg72))) (by rw [← e]; exact hk)))
                        have O694 : Only NoF w w89 := (o_sg O87 s90 (size_only o60) (oneF_ge hg72))
                        refine LC Hz rfl rfl Tryd.call26 (crash_o (show JO b21 D oj w89 F from T693) ok84.2.2.2 O694 (by have := (hfo.2 _ (List.mem_of_getElem? hm83)).2; omega) (fun k hk => Nat.le_trans (Nat.le_refl _) (hgeT k (.inl hk)))) rfl ?_
                        rintro e w695 ⟨rfl, F696, h697, o698, fm699, fr700⟩; refine ⟨_, rfl, ?_⟩
                        have hge701 := ge_next hgeT (size_only O694) fm699 fr700
                        clear Hz az; intro az Hz
                        have hL702 := (LInv.crash hL m82.l)
                        refine hK689 _ _ ?_
                        refine wp_seq_k fun K703 hK703 => ?_
                        -- law.go:181
                        refine wp_region_lit ?_
                        refine L (r_mv Hz rfl) Hz rfl ?_
                        clear Hz az; intro az Hz
                        refine LC Hz rfl rfl Tryd.call27 (start_o (show JO b21 (Dsk.crash D m82.l) oj w695 F696 from h697)) rfl ?_
                        rintro e w704 ⟨rfl, F705, h706, o707, fm708, fr709⟩; refine ⟨_, rfl, ?_⟩
                        have O710 : Only NoF w w695 := (o_sg O694 o698 (Nat.le_refl _) (fun k h => hgeT k (.inl h)))
                        have hge711 := ge_next hge701 (size_only O710) fm708 fr709
                        clear Hz az; intro az Hz
                        have hL712 := (LInv.start hL702)
                        refine hK703 _ _ ?_
                        refine wp_seq_k fun K713 hK713 => ?_
                        -- law.go:182
                        refine wp_region_lit ?_
                        refine L (r_as Hz rfl) Hz rfl ?_
                        clear Hz az; intro az Hz
                        refine hK713 _ _ ?_
                        refine wp_seq_k fun K714 hK714 => ?_
                        -- law.go:183
                        refine wp_region_lit ?_
                        refine L (r_mv Hz rfl) Hz rfl ?_
                        clear Hz az; intro az Hz
                        have hop715 := lasts_open hL712 rfl
                        have O725 : Only NoF w w704 := (o_sg O710 o707 (Nat.le_refl _) (fun k h => hge701 k (.inl h)))
                        have G724 := Gr.k hG O725
                        refine LC Hz rfl rfl Tryd.call9 (open_o G724 (show JO b21 (Dsk.start (Dsk.crash D m82.l)) oj w704 F705 from h706) (fun k hk => Nat.le_trans (Nat.le_trans hG.1 (Nat.le_refl _)) (hge711 k (.inl hk)))) rfl ?_
                        rintro e w717 ⟨oj716, hm719, rfl, F718, h720, o721, fm722, fr723⟩; refine ⟨_, rfl, ?_⟩
                        have hge726 := ge_next hge711 (size_only O725) fm722 fr723
                        clear Hz az; intro az Hz
                        refine L (r_mv Hz rfl) Hz rfl ?_
                        clear Hz az; intro az Hz
                        refine L (r_ex Hz rfl rfl) Hz rfl ?_
                        clear Hz az; intro az Hz
                        refine L (r_ex Hz rfl rfl) Hz rfl ?_
                        clear Hz az; intro az Hz
                        refine L (r_as Hz rfl) Hz rfl ?_
                        clear Hz az; intro az Hz
                        refine L (r_as Hz rfl) Hz rfl ?_
                        clear Hz az; intro az Hz
                        refine hK714 _ _ ?_
                        refine wp_seq_k fun K727 hK727 => ?_
                        refine wp_seq_k fun K728 hK728 => ?_
                        -- law.go:184
                        refine wp_region_lit ?_
                        refine L (r_mv Hz rfl) Hz rfl ?_
                        clear Hz az; intro az Hz
                        refine L (r_eqJ Tryd.underlying27 Hz rfl rfl) Hz rfl ?_
                        clear Hz az; intro az Hz
                        refine hK728 _ _ ?_
                        refine br Hz rfl (fun hc729 => ?_) (fun hc729 => ?_)
                        · -- if17
                          have q730 : oj716.isSome = false := (nt_t hc729)
                          have hj731 := isS_f q730; subst hj731
                          have h732 : (DiskT b21 ((openJ (Dsk.start (Dsk.crash D m82.l)) 3).1)) w717 F718 := h720
                          have hn733 := lasts_n hop715 hm719
                          refine wp_seq_k fun K734 hK734 => ?_
                          refine wp_seq_k fun K735 hK735 => ?_
                          -- law.go:185
                          refine wp_region_lit ?_
                          refine L (r_mv Hz rfl) Hz rfl ?_
                          clear Hz az; intro az Hz
                          refine LCV (v := .bool (((decide ((openJ (Dsk.start (Dsk.crash D m82.l)) 3).2.1 = 8)) || (decide ((openJ (Dsk.start (Dsk.crash D m82.l)) 3).2.1 = 9))))) Hz rfl rfl Tryd.call29 (disky_v _ ((openJ (Dsk.start (Dsk.crash D m82.l)) 3).2.1)) rfl fun w736 o737 => ?_
                          clear Hz az; intro az Hz
                          refine L (r_not Hz rfl) Hz rfl ?_
                          clear Hz az; intro az Hz
                          refine L (r_mv Hz rfl) Hz rfl ?_
                          clear Hz az; intro az Hz
                          refine LG Hz rfl rfl gd_f (fun hb => r_mv Hz rfl) rfl ?_
                          clear Hz az; intro az Hz
                          refine LG Hz rfl rfl gd_f (fun hb => r_mv Hz rfl) rfl ?_
                          clear Hz az; intro az Hz
                          refine LG Hz rfl rfl gd_f (fun hb => r_lenL Tryd.underlying44 Hz (evg hb rfl)) rfl ?_
                          clear Hz az; intro az Hz
                          refine LG Hz rfl rfl gd_f (fun hb => r_eqI Hz (evg hb rfl) (evg hb rfl)) rfl ?_
                          clear Hz az; intro az Hz
                          refine L (r_or Hz rfl rfl rfl) Hz rfl ?_
                          clear Hz az; intro az Hz
                          refine hK735 _ _ ?_
                          refine br Hz rfl (fun hc738 => ?_) (fun hc738 => ?_)
                          · -- if18
                            have d739 := hc738
                            exact absurd hc738 (lasts_18 hn733.1 (by omega))
                          · -- else18
                            have d740 := (nt_f (or_f hc738).1)
                            have p741 := of_decide_eq_false (or_f hc738).2
                            refine wp_skip ?_
                            refine hK734 _ _ ?_
                            refine wp_exit ?_
                            refine th_exit ?_
                            refine ib_miss rfl ?_
                            refine ib_hit ?_
                            refine hK66 _ _ ?_
                            -- law.go:144
                            refine wp_region_lit ?_
                            refine L (r_mv Hz rfl) Hz rfl ?_
                            clear Hz az; intro az Hz
                            have i742 : I64 (((i : Int) + 1)) := by unfold I64; omega
                            refine L (r_addI (r := ((i : Int) + 1)) Hz rfl rfl rfl i742) Hz rfl ?_
                            clear Hz az; intro az Hz
                            refine L (r_as Hz rfl) Hz rfl ?_
                            clear Hz az; intro az Hz
                            have O744 : Only NoF w59 w89 := (o_sg (o_sg o70 s75 (Nat.le_refl _) (oneF_ge hg72)) s90 (Nat.le_refl _) (oneF_ge hg72))
                            have sp743 : ∀ k, ownF (.slice Aa (LA.length) ca) k → ¬ Foot.all F696 k := sep_nexto sA (fun k hk => Nat.lt_of_lt_of_le (ownF_lt rA k hk) (size_only O744)) fm699 fr700
                            have O746 := (Only.trans (Only.trans (Only.trans (Only.trans (Only.refl (fun _ => True) w59) o70 (fun _ _ => .inl trivial)) s75 (fun _ _ => .inl trivial)) s90 (fun _ _ => .inl trivial)) o698 (fun _ _ => .inl trivial))
                            have sp745 : ∀ k, ownF (.slice Aa (LA.length) ca) k → ¬ Foot.all F705 k := sep_nexto sp743 (fun k hk => Nat.lt_of_lt_of_le (ownF_lt rA k hk) (size_only O746)) fm708 fr709
                            have r747 := (ow_k (ow_only (ow_only (ow_only (ow_only (ow_only (ow_k rA o70) s75 (fun k hk => lt_F (oneF_ge hg72) (Nat.le_refl _) k (ownF_lt rA k hk))) s90 (fun k hk => lt_F (oneF_ge hg72) (Nat.le_refl _) k (ownF_lt rA k hk))) o698 (fun k hk hF => sA k hk (.inl hF))) o707 (fun k hk hF => sp743 k hk (.inl hF))) o721 (fun k hk hF => sp745 k hk (.inl hF))) o737)
                            have O749 := (Only.trans (Only.trans (Only.trans (Only.trans (Only.trans (Only.refl (fun _ => True) w59) o70 (fun _ _ => .inl trivial)) s75 (fun _ _ => .inl trivial)) s90 (fun _ _ => .inl trivial)) o698 (fun _ _ => .inl trivial)) o707 (fun _ _ => .inl trivial))
                            have sp748 : ∀ k, ownF (.slice Aa (LA.length) ca) k → ¬ Foot.all F718 k := sep_nexto sp745 (fun k hk => Nat.lt_of_lt_of_le (ownF_lt rA k hk) (size_only O749)) fm722 fr723
                            have sp750 : ∀ k, ownF (.slice As (LS.length) cs) k → ¬ Foot.all F696 k := sep_nexto sS (fun k hk => Nat.lt_of_lt_of_le (ownF_lt rS k hk) (size_only O744)) fm699 fr700
                            have sp751 : ∀ k, ownF (.slice As (LS.length) cs) k → ¬ Foot.all F705 k := sep_nexto sp750 (fun k hk => Nat.lt_of_lt_of_le (ownF_lt rS k hk) (size_only O746)) fm708 fr709
                            have r752 := (ow_k (ow_only (ow_only (ow_only (ow_only (ow_only (ow_k rS o70) s75 (fun k hk => lt_F (oneF_ge hg72) (Nat.le_refl _) k (ownF_lt rS k hk))) s90 (fun k hk => lt_F (oneF_ge hg72) (Nat.le_refl _) k (ownF_lt rS k hk))) o698 (fun k hk hF => sS k hk (.inl hF))) o707 (fun k hk hF => sp750 k hk (.inl hF))) o721 (fun k hk hF => sp751 k hk (.inl hF))) o737)
                            have sp753 : ∀ k, ownF (.slice As (LS.length) cs) k → ¬ Foot.all F718 k := sep_nexto sp751 (fun k hk => Nat.lt_of_lt_of_le (ownF_lt rS k hk) (size_only O749)) fm722 fr723
                            have O754 : Only NoF w w736 := (Only.trans' (o_sg O725 o721 (Nat.le_refl _) (fun k h => hge711 k (.inl h))) o737)
                            have T755 : (JO b21 ((openJ (Dsk.start (Dsk.crash D m82.l)) 3).1) none) w736 F718 := ((jo_good _ _ _).only h720 o737 (fun _ _ h => h))
                            exact ⟨_, (by omega), i + 1, (openJ (Dsk.start (Dsk.crash D m82.l)) 3).1, none, LA, Aa, ca, LS, As, cs, F718, rfl, Hz.cut ⟨rfl, rfl, rfl, rfl, rfl, rfl, rfl, rfl, trivial⟩, (by omega), (LInv.mono hn733.2.1), (by omega), okA, okS, O754, (ow_low r747 (Nat.le_refl _)), (ow_low r752 (Nat.le_refl _)), T755, hge726, sp748, sp753⟩
                        · -- else17
                          have q756 : oj716.isSome = true := (nt_f hc729)
                          obtain ⟨g757, J758, hj759⟩ := isS_t q756; subst hj759
                          have h760 : (JT b21 g757 ((openJ (Dsk.start (Dsk.crash D m82.l)) 3).1) J758) w717 F718 := h720
                          obtain ⟨hz761, hs762, hs763, hL764⟩ := lasts_s hop715 hm719
                          rw [hz761] at Hz
                          refine wp_skip ?_
                          refine hK727 _ _ ?_
                          refine wp_seq_k fun K765 hK765 => ?_
                          -- law.go:190
                          refine wp_region_lit ?_
                          refine L (r_mv Hz rfl) Hz rfl ?_
                          clear Hz az; intro az Hz
                          have okl771 := okB (BothT.l (X := JB b21 g757 J758) h760)
                          refine LC Hz rfl rfl Tryd.call10 (all_b (BothT.l (X := JB b21 g757 J758) h760) (Nat.le_trans (linv_n hL764 (by omega)).2 (by decide))) rfl ?_
                          rintro e w766 ⟨A767, c768, rfl, r769, o770⟩; refine ⟨_, rfl, ?_⟩
                          clear Hz az; intro az Hz
                          refine L (r_as Hz rfl) Hz rfl ?_
                          clear Hz az; intro az Hz
                          refine hK765 _ _ ?_
                          refine wp_seq_k fun K772 hK772 => ?_
                          refine wp_seq_k fun K773 hK773 => ?_
                          -- law.go:191
                          refine wp_region_lit ?_
                          refine L (r_mv Hz rfl) Hz rfl ?_
                          clear Hz az; intro az Hz
                          refine L (r_neRI Hz rfl rfl) Hz rfl ?_
                          clear Hz az; intro az Hz
                          refine L (r_mv Hz rfl) Hz rfl ?_
                          clear Hz az; intro az Hz
                          refine LT Hz rfl rfl (r_mv Hz rfl) rfl ?_
                          clear Hz az; intro az Hz
                          refine LT Hz rfl rfl (r_mv Hz rfl) rfl ?_
                          clear Hz az; intro az Hz
                          have O776 : Only NoF w59 w89 := (o_sg (o_sg o70 s75 (Nat.le_refl _) (oneF_ge hg72)) s90 (Nat.le_refl _) (oneF_ge hg72))
                          have sp775 : ∀ k, ownF (.slice Aa (LA.length) ca) k → ¬ Foot.all F696 k := sep_nexto sA (fun k hk => Nat.lt_of_lt_of_le (ownF_lt rA k hk) (size_only O776)) fm699 fr700
                          have O778 := (Only.trans (Only.trans (Only.trans (Only.trans (Only.refl (fun _ => True) w59) o70 (fun _ _ => .inl trivial)) s75 (fun _ _ => .inl trivial)) s90 (fun _ _ => .inl trivial)) o698 (fun _ _ => .inl trivial))
                          have sp777 : ∀ k, ownF (.slice Aa (LA.length) ca) k → ¬ Foot.all F705 k := sep_nexto sp775 (fun k hk => Nat.lt_of_lt_of_le (ownF_lt rA k hk) (size_only O778)) fm708 fr709
                          have r779 := (ow_k (ow_only (ow_only (ow_only (ow_only (ow_only (ow_k rA o70) s75 (fun k hk => lt_F (oneF_ge hg72) (Nat.le_refl _) k (ownF_lt rA k hk))) s90 (fun k hk => lt_F (oneF_ge hg72) (Nat.le_refl _) k (ownF_lt rA k hk))) o698 (fun k hk hF => sA k hk (.inl hF))) o707 (fun k hk hF => sp775 k hk (.inl hF))) o721 (fun k hk hF => sp777 k hk (.inl hF))) o770)
                          have h774 := SliceOf.pl (Row.own KStr r779 okA)
                          have h780 := SliceOf.pl (Row.own KStr r769 okl771)
                          refine LGV (v := .bool (true)) Hz rfl rfl gd_f rfl (fun hb => rfl) Tryd.call30 (fun hb => begins_v_ h774 h780 hs763) rfl fun w781 o782 => ?_
                          clear Hz az; intro az Hz
                          refine LT Hz rfl rfl (r_not Hz rfl) rfl ?_
                          clear Hz az; intro az Hz
                          refine L (r_pick Hz rfl rfl rfl) Hz rfl ?_
                          clear Hz az; intro az Hz
                          refine L (r_mv Hz rfl) Hz rfl ?_
                          clear Hz az; intro az Hz
                          refine LT Hz rfl rfl (r_mv Hz rfl) rfl ?_
                          clear Hz az; intro az Hz
                          refine LT Hz rfl rfl (r_mv Hz rfl) rfl ?_
                          clear Hz az; intro az Hz
                          have r784 := (ow_k r769 o782)
                          have h783 := SliceOf.pl (Row.own KStr r784 okl771)
                          have sp786 : ∀ k, ownF (.slice As (LS.length) cs) k → ¬ Foot.all F696 k := sep_nexto sS (fun k hk => Nat.lt_of_lt_of_le (ownF_lt rS k hk) (size_only O776)) fm699 fr700
                          have sp787 : ∀ k, ownF (.slice As (LS.length) cs) k → ¬ Foot.all F705 k := sep_nexto sp786 (fun k hk => Nat.lt_of_lt_of_le (ownF_lt rS k hk) (size_only O778)) fm708 fr709
                          have r788 := (ow_k (ow_k (ow_only (ow_only (ow_only (ow_only (ow_only (ow_k rS o70) s75 (fun k hk => lt_F (oneF_ge hg72) (Nat.le_refl _) k (ownF_lt rS k hk))) s90 (fun k hk => lt_F (oneF_ge hg72) (Nat.le_refl _) k (ownF_lt rS k hk))) o698 (fun k hk hF => sS k hk (.inl hF))) o707 (fun k hk hF => sp786 k hk (.inl hF))) o721 (fun k hk hF => sp787 k hk (.inl hF))) o770) o782)
                          have h785 := SliceOf.pl (Row.own KStr r788 okS)
                          refine LGV (v := .bool (true)) Hz rfl rfl gd_f rfl (fun hb => rfl) Tryd.call30 (fun hb => begins_v_ h783 h785 hs762) rfl fun w789 o790 => ?_
                          clear Hz az; intro az Hz
                          refine LT Hz rfl rfl (r_not Hz rfl) rfl ?_
                          clear Hz az; intro az Hz
                          refine L (r_pick Hz rfl rfl rfl) Hz rfl ?_
                          clear Hz az; intro az Hz
                          refine hK773 _ _ ?_
                          refine br_false Hz rfl ?_
                          refine wp_skip ?_
                          refine hK772 _ _ ?_
                          refine wp_seq_k fun K791 hK791 => ?_
                          -- law.go:194
                          refine wp_region_lit ?_
                          refine L (r_mv Hz rfl) Hz rfl ?_
                          clear Hz az; intro az Hz
                          refine L (r_as Hz rfl) Hz rfl ?_
                          clear Hz az; intro az Hz
                          refine hK791 _ _ ?_
                          -- law.go:195
                          refine wp_region_lit ?_
                          refine L (r_mv Hz rfl) Hz rfl ?_
                          clear Hz az; intro az Hz
                          refine L (r_as Hz rfl) Hz rfl ?_
                          clear Hz az; intro az Hz
                          refine hK66 _ _ ?_
                          -- law.go:144
                          refine wp_region_lit ?_
                          refine L (r_mv Hz rfl) Hz rfl ?_
                          clear Hz az; intro az Hz
                          have i792 : I64 (((i : Int) + 1)) := by unfold I64; omega
                          refine L (r_addI (r := ((i : Int) + 1)) Hz rfl rfl rfl i792) Hz rfl ?_
                          clear Hz az; intro az Hz
                          refine L (r_as Hz rfl) Hz rfl ?_
                          clear Hz az; intro az Hz
                          have r793 := (ow_k r784 o790)
                          have O794 : Only NoF w w717 := (o_sg O725 o721 (Nat.le_refl _) (fun k h => hge711 k (.inl h)))
                          have O795 : Only NoF w w789 := (Only.trans' (Only.trans' (Only.trans' O794 o770) o782) o790)
                          have O796 : Only NoF w717 w789 := (Only.trans' (Only.trans' o770 o782) o790)
                          have T797 : (JT b21 g757 ((openJ (Dsk.start (Dsk.crash D m82.l)) 3).1) J758) w789 F718 := ((jt_good _ _ _ _).only h760 O796 (fun _ _ h => h))
                          exact ⟨_, (by omega), i + 1, (openJ (Dsk.start (Dsk.crash D m82.l)) 3).1, some (g757, J758), J758.l, A767, c768, J758.l, A767, c768, F718, rfl, Hz.cut ⟨rfl, rfl, rfl, rfl, rfl, rfl, rfl, rfl, trivial⟩, (by omega), (LInv.mono hL764), (by have := linv_l hL764; omega), okl771, okl771, O795, (ow_low r793 ((size_only O794))), (ow_low r793 ((size_only O794))), T797, hge726, (fun k hk h => absurd ((jo_good _ _ _).lt h720 _ h) (Nat.not_lt.2 (Nat.le_trans (Nat.le_refl _) (ownF_ge r769 k hk)))), (fun k hk h => absurd ((jo_good _ _ _).lt h720 _ h) (Nat.not_lt.2 (Nat.le_trans (Nat.le_refl _) (ownF_ge r769 k hk))))⟩
                      · -- else16
                        have p798 := of_decide_eq_false hc691
                        refine wp_skip ?_
                        refine hK689 _ _ ?_
                        refine wp_seq_k fun K799 hK799 => ?_
                        -- law.go:181
                        refine wp_region_lit ?_
                        refine L (r_mv Hz rfl) Hz rfl ?_
                        clear Hz az; intro az Hz
                        have T800 : (JO b21 D oj) w89 F := ((jo_good _ _ _).only ((jo_good _ _ _).only ((jo_good _ _ _).only hT o70 (fun _ _ h => h)) s75 (fun k hk (e : k = g68) => (fun h => absurd ((jo_good _ _ _).lt hT _ h) (Nat.not_lt.2 (Nat.le_trans (Nat.le_refl _) hg72))) (by rw [← e]; exact hk))) s90 (fun k hk (e : k = g68) => (fun h => absurd ((jo_good _ _ _).lt hT _ h) (Nat.not_lt.2 (Nat.le_trans (Nat.le_refl _) hg72))) (by rw [← e]; exact hk)))
                        refine LC Hz rfl rfl Tryd.call27 (start_o (show JO b21 D oj w89 F from T800)) rfl ?_
                        rintro e w801 ⟨rfl, F802, h803, o804, fm805, fr806⟩; refine ⟨_, rfl, ?_⟩
                        have O807 : Only NoF w w89 := (o_sg O87 s90 (size_only o60) (oneF_ge hg72))
                        have hge808 := ge_next hgeT (size_only O807) fm805 fr806
                        clear Hz az; intro az Hz
                        have hL809 := (LInv.start hL)
                        refine hK799 _ _ ?_
                        refine wp_seq_k fun K810 hK810 => ?_
                        -- law.go:182
                        refine wp_region_lit ?_
                        refine L (r_as Hz rfl) Hz rfl ?_
                        clear Hz az; intro az Hz
                        refine hK810 _ _ ?_
                        refine wp_seq_k fun K811 hK811 => ?_
                        -- law.go:183
                        refine wp_region_lit ?_
                        refine L (r_mv Hz rfl) Hz rfl ?_
                        clear Hz az; intro az Hz
                        have hop812 := lasts_open hL809 rfl
                        have O822 : Only NoF w w801 := (o_sg O807 o804 (Nat.le_refl _) (fun k h => hgeT k (.inl h)))
                        have G821 := Gr.k hG O822
                        refine LC Hz rfl rfl Tryd.call9 (open_o G821 (show JO b21 (Dsk.start D) oj w801 F802 from h803) (fun k hk => Nat.le_trans (Nat.le_trans hG.1 (Nat.le_refl _)) (hge808 k (.inl hk)))) rfl ?_
                        rintro e w814 ⟨oj813, hm816, rfl, F815, h817, o818, fm819, fr820⟩; refine ⟨_, rfl, ?_⟩
                        have hge823 := ge_next hge808 (size_only O822) fm819 fr820
                        clear Hz az; intro az Hz
                        refine L (r_mv Hz rfl) Hz rfl ?_
                        clear Hz az; intro az Hz
                        refine L (r_ex Hz rfl rfl) Hz rfl ?_
                        clear Hz az; intro az Hz
                        refine L (r_ex Hz rfl rfl) Hz rfl ?_
                        clear Hz az; intro az Hz
                        refine L (r_as Hz rfl) Hz rfl ?_
                        clear Hz az; intro az Hz
                        refine L (r_as Hz rfl) Hz rfl ?_
                        clear Hz az; intro az Hz
                        refine hK811 _ _ ?_
                        refine wp_seq_k fun K824 hK824 => ?_
                        refine wp_seq_k fun K825 hK825 => ?_
                        -- law.go:184
                        refine wp_region_lit ?_
                        refine L (r_mv Hz rfl) Hz rfl ?_
                        clear Hz az; intro az Hz
                        refine L (r_eqJ Tryd.underlying27 Hz rfl rfl) Hz rfl ?_
                        clear Hz az; intro az Hz
                        refine hK825 _ _ ?_
                        refine br Hz rfl (fun hc826 => ?_) (fun hc826 => ?_)
                        · -- if17
                          have q827 : oj813.isSome = false := (nt_t hc826)
                          have hj828 := isS_f q827; subst hj828
                          have h829 : (DiskT b21 ((openJ (Dsk.start D) 3).1)) w814 F815 := h817
                          have hn830 := lasts_n hop812 hm816
                          refine wp_seq_k fun K831 hK831 => ?_
                          refine wp_seq_k fun K832 hK832 => ?_
                          -- law.go:185
                          refine wp_region_lit ?_
                          refine L (r_mv Hz rfl) Hz rfl ?_
                          clear Hz az; intro az Hz
                          refine LCV (v := .bool (((decide ((openJ (Dsk.start D) 3).2.1 = 8)) || (decide ((openJ (Dsk.start D) 3).2.1 = 9))))) Hz rfl rfl Tryd.call29 (disky_v _ ((openJ (Dsk.start D) 3).2.1)) rfl fun w833 o834 => ?_
                          clear Hz az; intro az Hz
                          refine L (r_not Hz rfl) Hz rfl ?_
                          clear Hz az; intro az Hz
                          refine L (r_mv Hz rfl) Hz rfl ?_
                          clear Hz az; intro az Hz
                          refine LG Hz rfl rfl gd_f (fun hb => r_mv Hz rfl) rfl ?_
                          clear Hz az; intro az Hz
                          refine LG Hz rfl rfl gd_f (fun hb => r_mv Hz rfl) rfl ?_
                          clear Hz az; intro az Hz
                          refine LG Hz rfl rfl gd_f (fun hb => r_lenL Tryd.underlying44 Hz (evg hb rfl)) rfl ?_
                          clear Hz az; intro az Hz
                          refine LG Hz rfl rfl gd_f (fun hb => r_eqI Hz (evg hb rfl) (evg hb rfl)) rfl ?_
                          clear Hz az; intro az Hz
                          refine L (r_or Hz rfl rfl rfl) Hz rfl ?_
                          clear Hz az; intro az Hz
                          refine hK832 _ _ ?_
                          refine br Hz rfl (fun hc835 => ?_) (fun hc835 => ?_)
                          · -- if18
                            have d836 := hc835
                            exact absurd hc835 (lasts_18 hn830.1 (by omega))
                          · -- else18
                            have d837 := (nt_f (or_f hc835).1)
                            have p838 := of_decide_eq_false (or_f hc835).2
                            refine wp_skip ?_
                            refine hK831 _ _ ?_
                            refine wp_exit ?_
                            refine th_exit ?_
                            refine ib_miss rfl ?_
                            refine ib_hit ?_
                            refine hK66 _ _ ?_
                            -- law.go:144
                            refine wp_region_lit ?_
                            refine L (r_mv Hz rfl) Hz rfl ?_
                            clear Hz az; intro az Hz
                            have i839 : I64 (((i : Int) + 1)) := by unfold I64; omega
                            refine L (r_addI (r := ((i : Int) + 1)) Hz rfl rfl rfl i839) Hz rfl ?_
                            clear Hz az; intro az Hz
                            refine L (r_as Hz rfl) Hz rfl ?_
                            clear Hz az; intro az Hz
                            have O841 : Only NoF w59 w89 := (o_sg (o_sg o70 s75 (Nat.le_refl _) (oneF_ge hg72)) s90 (Nat.le_refl _) (oneF_ge hg72))
                            have sp840 : ∀ k, ownF (.slice Aa (LA.length) ca) k → ¬ Foot.all F802 k := sep_nexto sA (fun k hk => Nat.lt_of_lt_of_le (ownF_lt rA k hk) (size_only O841)) fm805 fr806
                            have r842 := (ow_k (ow_only (ow_only (ow_only (ow_only (ow_k rA o70) s75 (fun k hk => lt_F (oneF_ge hg72) (Nat.le_refl _) k (ownF_lt rA k hk))) s90 (fun k hk => lt_F (oneF_ge hg72) (Nat.le_refl _) k (ownF_lt rA k hk))) o804 (fun k hk hF => sA k hk (.inl hF))) o818 (fun k hk hF => sp840 k hk (.inl hF))) o834)
                            have O844 := (Only.trans (Only.trans (Only.trans (Only.trans (Only.refl (fun _ => True) w59) o70 (fun _ _ => .inl trivial)) s75 (fun _ _ => .inl trivial)) s90 (fun _ _ => .inl trivial)) o804 (fun _ _ => .inl trivial))
                            have sp843 : ∀ k, ownF (.slice Aa (LA.length) ca) k → ¬ Foot.all F815 k := sep_nexto sp840 (fun k hk => Nat.lt_of_lt_of_le (ownF_lt rA k hk) (size_only O844)) fm819 fr820
                            have sp845 : ∀ k, ownF (.slice As (LS.length) cs) k → ¬ Foot.all F802 k := sep_nexto sS (fun k hk => Nat.lt_of_lt_of_le (ownF_lt rS k hk) (size_only O841)) fm805 fr806
                            have r846 := (ow_k (ow_only (ow_only (ow_only (ow_only (ow_k rS o70) s75 (fun k hk => lt_F (oneF_ge hg72) (Nat.le_refl _) k (ownF_lt rS k hk))) s90 (fun k hk => lt_F (oneF_ge hg72) (Nat.le_refl _) k (ownF_lt rS k hk))) o804 (fun k hk hF => sS k hk (.inl hF))) o818 (fun k hk hF => sp845 k hk (.inl hF))) o834)
                            have sp847 : ∀ k, ownF (.slice As (LS.length) cs) k → ¬ Foot.all F815 k := sep_nexto sp845 (fun k hk => Nat.lt_of_lt_of_le (ownF_lt rS k hk) (size_only O844)) fm819 fr820
                            have O848 : Only NoF w w833 := (Only.trans' (o_sg O822 o818 (Nat.le_refl _) (fun k h => hge808 k (.inl h))) o834)
                            have T849 : (JO b21 ((openJ (Dsk.start D) 3).1) none) w833 F815 := ((jo_good _ _ _).only h817 o834 (fun _ _ h => h))
                            exact ⟨_, (by omega), i + 1, (openJ (Dsk.start D) 3).1, none, LA, Aa, ca, LS, As, cs, F815, rfl, Hz.cut ⟨rfl, rfl, rfl, rfl, rfl, rfl, rfl, rfl, trivial⟩, (by omega), (LInv.mono hn830.2.1), (by omega), okA, okS, O848, (ow_low r842 (Nat.le_refl _)), (ow_low r846 (Nat.le_refl _)), T849, hge823, sp843, sp847⟩
                        · -- else17
                          have q850 : oj813.isSome = true := (nt_f hc826)
                          obtain ⟨g851, J852, hj853⟩ := isS_t q850; subst hj853
                          have h854 : (JT b21 g851 ((openJ (Dsk.start D) 3).1) J852) w814 F815 := h817
                          obtain ⟨hz855, hs856, hs857, hL858⟩ := lasts_s hop812 hm816
                          rw [hz855] at Hz
                          refine wp_skip ?_
                          refine hK824 _ _ ?_
                          refine wp_seq_k fun K859 hK859 => ?_
                          -- law.go:190
                          refine wp_region_lit ?_
                          refine L (r_mv Hz rfl) Hz rfl ?_
                          clear Hz az; intro az Hz
                          have okl865 := okB (BothT.l (X := JB b21 g851 J852) h854)
                          refine LC Hz rfl rfl Tryd.call10 (all_b (BothT.l (X := JB b21 g851 J852) h854) (Nat.le_trans (linv_n hL858 (by omega)).2 (by decide))) rfl ?_
                          rintro e w860 ⟨A861, c862, rfl, r863, o864⟩; refine ⟨_, rfl, ?_⟩
                          clear Hz az; intro az Hz
                          refine L (r_as Hz rfl) Hz rfl ?_
                          clear Hz az; intro az Hz
                          refine hK859 _ _ ?_
                          refine wp_seq_k fun K866 hK866 => ?_
                          refine wp_seq_k fun K867 hK867 => ?_
                          -- law.go:191
                          refine wp_region_lit ?_
                          refine L (r_mv Hz rfl) Hz rfl ?_
                          clear Hz az; intro az Hz
                          refine L (r_neRI Hz rfl rfl) Hz rfl ?_
                          clear Hz az; intro az Hz
                          refine L (r_mv Hz rfl) Hz rfl ?_
                          clear Hz az; intro az Hz
                          refine LT Hz rfl rfl (r_mv Hz rfl) rfl ?_
                          clear Hz az; intro az Hz
                          refine LT Hz rfl rfl (r_mv Hz rfl) rfl ?_
                          clear Hz az; intro az Hz
                          have O870 : Only NoF w59 w89 := (o_sg (o_sg o70 s75 (Nat.le_refl _) (oneF_ge hg72)) s90 (Nat.le_refl _) (oneF_ge hg72))
                          have sp869 : ∀ k, ownF (.slice Aa (LA.length) ca) k → ¬ Foot.all F802 k := sep_nexto sA (fun k hk => Nat.lt_of_lt_of_le (ownF_lt rA k hk) (size_only O870)) fm805 fr806
                          have r871 := (ow_k (ow_only (ow_only (ow_only (ow_only (ow_k rA o70) s75 (fun k hk => lt_F (oneF_ge hg72) (Nat.le_refl _) k (ownF_lt rA k hk))) s90 (fun k hk => lt_F (oneF_ge hg72) (Nat.le_refl _) k (ownF_lt rA k hk))) o804 (fun k hk hF => sA k hk (.inl hF))) o818 (fun k hk hF => sp869 k hk (.inl hF))) o864)
                          have h868 := SliceOf.pl (Row.own KStr r871 okA)
                          have h872 := SliceOf.pl (Row.own KStr r863 okl865)
                          refine LGV (v := .bool (true)) Hz rfl rfl gd_f rfl (fun hb => rfl) Tryd.call30 (fun hb => begins_v_ h868 h872 hs857) rfl fun w873 o874 => ?_
                          clear Hz az; intro az Hz
                          refine LT Hz rfl rfl (r_not Hz rfl) rfl ?_
                          clear Hz az; intro az Hz
                          refine L (r_pick Hz rfl rfl rfl) Hz rfl ?_
                          clear Hz az; intro az Hz
                          refine L (r_mv Hz rfl) Hz rfl ?_
                          clear Hz az; intro az Hz
                          refine LT Hz rfl rfl (r_mv Hz rfl) rfl ?_
                          clear Hz az; intro az Hz
                          refine LT Hz rfl rfl (r_mv Hz rfl) rfl ?_
                          clear Hz az; intro az Hz
                          have r876 := (ow_k r863 o874)
                          have h875 := SliceOf.pl (Row.own KStr r876 okl865)
                          have sp878 : ∀ k, ownF (.slice As (LS.length) cs) k → ¬ Foot.all F802 k := sep_nexto sS (fun k hk => Nat.lt_of_lt_of_le (ownF_lt rS k hk) (size_only O870)) fm805 fr806
                          have r879 := (ow_k (ow_k (ow_only (ow_only (ow_only (ow_only (ow_k rS o70) s75 (fun k hk => lt_F (oneF_ge hg72) (Nat.le_refl _) k (ownF_lt rS k hk))) s90 (fun k hk => lt_F (oneF_ge hg72) (Nat.le_refl _) k (ownF_lt rS k hk))) o804 (fun k hk hF => sS k hk (.inl hF))) o818 (fun k hk hF => sp878 k hk (.inl hF))) o864) o874)
                          have h877 := SliceOf.pl (Row.own KStr r879 okS)
                          refine LGV (v := .bool (true)) Hz rfl rfl gd_f rfl (fun hb => rfl) Tryd.call30 (fun hb => begins_v_ h875 h877 hs856) rfl fun w880 o881 => ?_
                          clear Hz az; intro az Hz
                          refine LT Hz rfl rfl (r_not Hz rfl) rfl ?_
                          clear Hz az; intro az Hz
                          refine L (r_pick Hz rfl rfl rfl) Hz rfl ?_
                          clear Hz az; intro az Hz
                          refine hK867 _ _ ?_
                          refine br_false Hz rfl ?_
                          refine wp_skip ?_
                          refine hK866 _ _ ?_
                          refine wp_seq_k fun K882 hK882 => ?_
                          -- law.go:194
                          refine wp_region_lit ?_
                          refine L (r_mv Hz rfl) Hz rfl ?_
                          clear Hz az; intro az Hz
                          refine L (r_as Hz rfl) Hz rfl ?_
                          clear Hz az; intro az Hz
                          refine hK882 _ _ ?_
                          -- law.go:195
                          refine wp_region_lit ?_
                          refine L (r_mv Hz rfl) Hz rfl ?_
                          clear Hz az; intro az Hz
                          refine L (r_as Hz rfl) Hz rfl ?_
                          clear Hz az; intro az Hz
                          refine hK66 _ _ ?_
                          -- law.go:144
                          refine wp_region_lit ?_
                          refine L (r_mv Hz rfl) Hz rfl ?_
                          clear Hz az; intro az Hz
                          have i883 : I64 (((i : Int) + 1)) := by unfold I64; omega
                          refine L (r_addI (r := ((i : Int) + 1)) Hz rfl rfl rfl i883) Hz rfl ?_
                          clear Hz az; intro az Hz
                          refine L (r_as Hz rfl) Hz rfl ?_
                          clear Hz az; intro az Hz
                          have r884 := (ow_k r876 o881)
                          have O885 : Only NoF w w814 := (o_sg O822 o818 (Nat.le_refl _) (fun k h => hge808 k (.inl h)))
                          have O886 : Only NoF w w880 := (Only.trans' (Only.trans' (Only.trans' O885 o864) o874) o881)
                          have O887 : Only NoF w814 w880 := (Only.trans' (Only.trans' o864 o874) o881)
                          have T888 : (JT b21 g851 ((openJ (Dsk.start D) 3).1) J852) w880 F815 := ((jt_good _ _ _ _).only h854 O887 (fun _ _ h => h))
                          exact ⟨_, (by omega), i + 1, (openJ (Dsk.start D) 3).1, some (g851, J852), J852.l, A861, c862, J852.l, A861, c862, F815, rfl, Hz.cut ⟨rfl, rfl, rfl, rfl, rfl, rfl, rfl, rfl, trivial⟩, (by omega), (LInv.mono hL858), (by have := linv_l hL858; omega), okl865, okl865, O886, (ow_low r884 ((size_only O885))), (ow_low r884 ((size_only O885))), T888, hge823, (fun k hk h => absurd ((jo_good _ _ _).lt h817 _ h) (Nat.not_lt.2 (Nat.le_trans (Nat.le_refl _) (ownF_ge r863 k hk)))), (fun k hk h => absurd ((jo_good _ _ _).lt h817 _ h) (Nat.not_lt.2 (Nat.le_trans (Nat.le_refl _) (ownF_ge r863 k hk))))⟩
                    · -- else15
                      have p889 := of_decide_eq_false hc687
                      refine wp_skip ?_
                      refine hK66 _ _ ?_
                      -- law.go:144
                      refine wp_region_lit ?_
                      refine L (r_mv Hz rfl) Hz rfl ?_
                      clear Hz az; intro az Hz
                      have i890 : I64 (((i : Int) + 1)) := by unfold I64; omega
                      refine L (r_addI (r := ((i : Int) + 1)) Hz rfl rfl rfl i890) Hz rfl ?_
                      clear Hz az; intro az Hz
                      refine L (r_as Hz rfl) Hz rfl ?_
                      clear Hz az; intro az Hz
                      have r891 := (ow_only (ow_only (ow_k rA o70) s75 (fun k hk => lt_F (oneF_ge hg72) (Nat.le_refl _) k (ownF_lt rA k hk))) s90 (fun k hk => lt_F (oneF_ge hg72) (Nat.le_refl _) k (ownF_lt rA k hk)))
                      have r892 := (ow_only (ow_only (ow_k rS o70) s75 (fun k hk => lt_F (oneF_ge hg72) (Nat.le_refl _) k (ownF_lt rS k hk))) s90 (fun k hk => lt_F (oneF_ge hg72) (Nat.le_refl _) k (ownF_lt rS k hk)))
                      have O893 : Only NoF w w89 := (o_sg O87 s90 (size_only o60) (oneF_ge hg72))
                      have T894 : (JO b21 D oj) w89 F := ((jo_good _ _ _).only ((jo_good _ _ _).only ((jo_good _ _ _).only hT o70 (fun _ _ h => h)) s75 (fun k hk (e : k = g68) => (fun h => absurd ((jo_good _ _ _).lt hT _ h) (Nat.not_lt.2 (Nat.le_trans (Nat.le_refl _) hg72))) (by rw [← e]; exact hk))) s90 (fun k hk (e : k = g68) => (fun h => absurd ((jo_good _ _ _).lt hT _ h) (Nat.not_lt.2 (Nat.le_trans (Nat.le_refl _) hg72))) (by rw [← e]; exact hk)))
                      exact ⟨_, (by omega), i + 1, D, oj, LA, Aa, ca, LS, As, cs, F, rfl, Hz.cut ⟨rfl, rfl, rfl, rfl, rfl, rfl, rfl, rfl, trivial⟩, (by omega), (LInv.mono hL), (by omega), okA, okS, O893, (ow_low r891 (Nat.le_refl _)), (ow_low r892 (Nat.le_refl _)), T894, hgeT, sA, sS⟩
                  · -- else14
                    have p895 := of_decide_eq_false hc685
                    -- law.go:177
                    refine wp_region_lit ?_
                    refine L (r_eqI Hz rfl rfl) Hz rfl ?_
                    clear Hz az; intro az Hz
                    refine L (r_as Hz rfl) Hz rfl ?_
                    clear Hz az; intro az Hz
                    refine hK683 _ _ ?_
                    refine br Hz rfl (fun hc896 => ?_) (fun hc896 => ?_)
                    · -- if15
                      have p897 := of_decide_eq_true hc896
                      refine wp_seq_k fun K898 hK898 => ?_
                      refine wp_seq_k fun K899 hK899 => ?_
                      -- law.go:178
                      refine wp_region_lit ?_
                      refine L (r_fa (m' := 0) Tryd.underlying49 rfl Tryd.sizeOf3 rfl Hz rfl rfl) Hz rfl ?_
                      clear Hz az; intro az Hz
                      refine L (r_ld Tryd.isAgg3 Hz rfl ((Blk.ca B91) 0 _ rfl)) Hz rfl ?_
                      clear Hz az; intro az Hz
                      refine L (r_eqI Hz rfl rfl) Hz rfl ?_
                      clear Hz az; intro az Hz
                      refine hK899 _ _ ?_
                      refine br Hz rfl (fun hc900 => ?_) (fun hc900 => ?_)
                      · -- if16
                        have p901 := of_decide_eq_true hc900
                        -- law.go:179
                        refine wp_region_lit ?_
                        refine L (r_mv Hz rfl) Hz rfl ?_
                        clear Hz az; intro az Hz
                        refine L (r_fa (m' := 3) Tryd.underlying49 rfl Tryd.sizeOf45 rfl Hz rfl rfl) Hz rfl ?_
                        clear Hz az; intro az Hz
                        refine L (r_ld Tryd.isAgg45 Hz rfl ((Blk.ca B91) 3 _ rfl)) Hz rfl ?_
                        clear Hz az; intro az Hz
                        have T902 : (JO b21 D oj) w89 F := ((jo_good _ _ _).only ((jo_good _ _ _).only ((jo_good _ _ _).only hT o70 (fun _ _ h => h)) s75 (fun k hk (e : k = g68) => (fun h => absurd ((jo_good _ _ _).lt hT _ h) (Nat.not_lt.2 (Nat.le_trans (Nat.le_refl _) hg72))) (by rw [← e]; exact hk))) s90 (fun k hk (e : k = g68) => (fun h => absurd ((jo_good _ _ _).lt hT _ h) (Nat.not_lt.2 (Nat.le_trans (Nat.le_refl _) hg72))) (by rw [← e]; exact hk)))
                        have O903 : Only NoF w w89 := (o_sg O87 s90 (size_only o60) (oneF_ge hg72))
                        refine LC Hz rfl rfl Tryd.call26 (crash_o (show JO b21 D oj w89 F from T902) ok84.2.2.2 O903 (by have := (hfo.2 _ (List.mem_of_getElem? hm83)).2; omega) (fun k hk => Nat.le_trans (Nat.le_refl _) (hgeT k (.inl hk)))) rfl ?_
                        rintro e w904 ⟨rfl, F905, h906, o907, fm908, fr909⟩; refine ⟨_, rfl, ?_⟩
                        have hge910 := ge_next hgeT (size_only O903) fm908 fr909
                        clear Hz az; intro az Hz
                        have hL911 := (LInv.crash hL m82.l)
                        refine hK898 _ _ ?_
                        refine wp_seq_k fun K912 hK912 => ?_
                        -- law.go:181
                        refine wp_region_lit ?_
                        refine L (r_mv Hz rfl) Hz rfl ?_
                        clear Hz az; intro az Hz
                        refine LC Hz rfl rfl Tryd.call27 (start_o (show JO b21 (Dsk.crash D m82.l) oj w904 F905 from h906)) rfl ?_
                        rintro e w913 ⟨rfl, F914, h915, o916, fm917, fr918⟩; refine ⟨_, rfl, ?_⟩
                        have O919 : Only NoF w w904 := (o_sg O903 o907 (Nat.le_refl _) (fun k h => hgeT k (.inl h)))
                        have hge920 := ge_next hge910 (size_only O919) fm917 fr918
                        clear Hz az; intro az Hz
                        have hL921 := (LInv.start hL911)
                        refine hK912 _ _ ?_
                        refine wp_seq_k fun K922 hK922 => ?_
                        -- law.go:182
                        refine wp_region_lit ?_
                        refine L (r_as Hz rfl) Hz rfl ?_
                        clear Hz az; intro az Hz
                        refine hK922 _ _ ?_
                        refine wp_seq_k fun K923 hK923 => ?_
                        -- law.go:183
                        refine wp_region_lit ?_
                        refine L (r_mv Hz rfl) Hz rfl ?_
                        clear Hz az; intro az Hz
                        have hop924 := lasts_open hL921 rfl
                        have O934 : Only NoF w w913 := (o_sg O919 o916 (Nat.le_refl _) (fun k h => hge910 k (.inl h)))
                        have G933 := Gr.k hG O934
                        refine LC Hz rfl rfl Tryd.call9 (open_o G933 (show JO b21 (Dsk.start (Dsk.crash D m82.l)) oj w913 F914 from h915) (fun k hk => Nat.le_trans (Nat.le_trans hG.1 (Nat.le_refl _)) (hge920 k (.inl hk)))) rfl ?_
                        rintro e w926 ⟨oj925, hm928, rfl, F927, h929, o930, fm931, fr932⟩; refine ⟨_, rfl, ?_⟩
                        have hge935 := ge_next hge920 (size_only O934) fm931 fr932
                        clear Hz az; intro az Hz
                        refine L (r_mv Hz rfl) Hz rfl ?_
                        clear Hz az; intro az Hz
                        refine L (r_ex Hz rfl rfl) Hz rfl ?_
                        clear Hz az; intro az Hz
                        refine L (r_ex Hz rfl rfl) Hz rfl ?_
                        clear Hz az; intro az Hz
                        refine L (r_as Hz rfl) Hz rfl ?_
                        clear Hz az; intro az Hz
                        refine L (r_as Hz rfl) Hz rfl ?_
                        clear Hz az; intro az Hz
                        refine hK923 _ _ ?_
                        refine wp_seq_k fun K936 hK936 => ?_
                        refine wp_seq_k fun K937 hK937 => ?_
                        -- law.go:184
                        refine wp_region_lit ?_
                        refine L (r_mv Hz rfl) Hz rfl ?_
                        clear Hz az; intro az Hz
                        refine L (r_eqJ Tryd.underlying27 Hz rfl rfl) Hz rfl ?_
                        clear Hz az; intro az Hz
                        refine hK937 _ _ ?_
                        refine br Hz rfl (fun hc938 => ?_) (fun hc938 => ?_)
                        · -- if17
                          have q939 : oj925.isSome = false := (nt_t hc938)
                          have hj940 := isS_f q939; subst hj940
                          have h941 : (DiskT b21 ((openJ (Dsk.start (Dsk.crash D m82.l)) 3).1)) w926 F927 := h929
                          have hn942 := lasts_n hop924 hm928
                          refine wp_seq_k fun K943 hK943 => ?_
                          refine wp_seq_k fun K944 hK944 => ?_
                          -- law.go:185
                          refine wp_region_lit ?_
                          refine L (r_mv Hz rfl) Hz rfl ?_
                          clear Hz az; intro az Hz
                          refine LCV (v := .bool (((decide ((openJ (Dsk.start (Dsk.crash D m82.l)) 3).2.1 = 8)) || (decide ((openJ (Dsk.start (Dsk.crash D m82.l)) 3).2.1 = 9))))) Hz rfl rfl Tryd.call29 (disky_v _ ((openJ (Dsk.start (Dsk.crash D m82.l)) 3).2.1)) rfl fun w945 o946 => ?_
                          clear Hz az; intro az Hz
                          refine L (r_not Hz rfl) Hz rfl ?_
                          clear Hz az; intro az Hz
                          refine L (r_mv Hz rfl) Hz rfl ?_
                          clear Hz az; intro az Hz
                          refine LG Hz rfl rfl gd_f (fun hb => r_mv Hz rfl) rfl ?_
                          clear Hz az; intro az Hz
                          refine LG Hz rfl rfl gd_f (fun hb => r_mv Hz rfl) rfl ?_
                          clear Hz az; intro az Hz
                          refine LG Hz rfl rfl gd_f (fun hb => r_lenL Tryd.underlying44 Hz (evg hb rfl)) rfl ?_
                          clear Hz az; intro az Hz
                          refine LG Hz rfl rfl gd_f (fun hb => r_eqI Hz (evg hb rfl) (evg hb rfl)) rfl ?_
                          clear Hz az; intro az Hz
                          refine L (r_or Hz rfl rfl rfl) Hz rfl ?_
                          clear Hz az; intro az Hz
                          refine hK944 _ _ ?_
                          refine br Hz rfl (fun hc947 => ?_) (fun hc947 => ?_)
                          · -- if18
                            have d948 := hc947
                            exact absurd hc947 (lasts_18 hn942.1 (by omega))
                          · -- else18
                            have d949 := (nt_f (or_f hc947).1)
                            have p950 := of_decide_eq_false (or_f hc947).2
                            refine wp_skip ?_
                            refine hK943 _ _ ?_
                            refine wp_exit ?_
                            refine th_exit ?_
                            refine ib_miss rfl ?_
                            refine ib_hit ?_
                            refine hK66 _ _ ?_
                            -- law.go:144
                            refine wp_region_lit ?_
                            refine L (r_mv Hz rfl) Hz rfl ?_
                            clear Hz az; intro az Hz
                            have i951 : I64 (((i : Int) + 1)) := by unfold I64; omega
                            refine L (r_addI (r := ((i : Int) + 1)) Hz rfl rfl rfl i951) Hz rfl ?_
                            clear Hz az; intro az Hz
                            refine L (r_as Hz rfl) Hz rfl ?_
                            clear Hz az; intro az Hz
                            have O953 : Only NoF w59 w89 := (o_sg (o_sg o70 s75 (Nat.le_refl _) (oneF_ge hg72)) s90 (Nat.le_refl _) (oneF_ge hg72))
                            have sp952 : ∀ k, ownF (.slice Aa (LA.length) ca) k → ¬ Foot.all F905 k := sep_nexto sA (fun k hk => Nat.lt_of_lt_of_le (ownF_lt rA k hk) (size_only O953)) fm908 fr909
                            have O955 := (Only.trans (Only.trans (Only.trans (Only.trans (Only.refl (fun _ => True) w59) o70 (fun _ _ => .inl trivial)) s75 (fun _ _ => .inl trivial)) s90 (fun _ _ => .inl trivial)) o907 (fun _ _ => .inl trivial))
                            have sp954 : ∀ k, ownF (.slice Aa (LA.length) ca) k → ¬ Foot.all F914 k := sep_nexto sp952 (fun k hk => Nat.lt_of_lt_of_le (ownF_lt rA k hk) (size_only O955)) fm917 fr918
                            have r956 := (ow_k (ow_only (ow_only (ow_only (ow_only (ow_only (ow_k rA o70) s75 (fun k hk => lt_F (oneF_ge hg72) (Nat.le_refl _) k (ownF_lt rA k hk))) s90 (fun k hk => lt_F (oneF_ge hg72) (Nat.le_refl _) k (ownF_lt rA k hk))) o907 (fun k hk hF => sA k hk (.inl hF))) o916 (fun k hk hF => sp952 k hk (.inl hF))) o930 (fun k hk hF => sp954 k hk (.inl hF))) o946)
                            have O958 := (Only.trans (Only.trans (Only.trans (Only.trans (Only.trans (Only.refl (fun _ => True) w59) o70 (fun _ _ => .inl trivial)) s75 (fun _ _ => .inl trivial)) s90 (fun _ _ => .inl trivial)) o907 (fun _ _ => .inl trivial)) o916 (fun _ _ => .inl trivial))
                            have sp957 : ∀ k, ownF (.slice Aa (LA.length) ca) k → ¬ Foot.all F927 k := sep_nexto sp954 (fun k hk => Nat.lt_of_lt_of_le (ownF_lt rA k hk) (size_only O958)) fm931 fr932
                            have sp959 : ∀ k, ownF (.slice As (LS.length) cs) k → ¬ Foot.all F905 k := sep_nexto sS (fun k hk => Nat.lt_of_lt_of_le (ownF_lt rS k hk) (size_only O953)) fm908 fr909
                            have sp960 : ∀ k, ownF (.slice As (LS.length) cs) k → ¬ Foot.all F914 k := sep_nexto sp959 (fun k hk => Nat.lt_of_lt_of_le (ownF_lt rS k hk) (size_only O955)) fm917 fr918
                            have r961 := (ow_k (ow_only (ow_only (ow_only (ow_only (ow_only (ow_k rS o70) s75 (fun k hk => lt_F (oneF_ge hg72) (Nat.le_refl _) k (ownF_lt rS k hk))) s90 (fun k hk => lt_F (oneF_ge hg72) (Nat.le_refl _) k (ownF_lt rS k hk))) o907 (fun k hk hF => sS k hk (.inl hF))) o916 (fun k hk hF => sp959 k hk (.inl hF))) o930 (fun k hk hF => sp960 k hk (.inl hF))) o946)
                            have sp962 : ∀ k, ownF (.slice As (LS.length) cs) k → ¬ Foot.all F927 k := sep_nexto sp960 (fun k hk => Nat.lt_of_lt_of_le (ownF_lt rS k hk) (size_only O958)) fm931 fr932
                            have O963 : Only NoF w w945 := (Only.trans' (o_sg O934 o930 (Nat.le_refl _) (fun k h => hge920 k (.inl h))) o946)
                            have T964 : (JO b21 ((openJ (Dsk.start (Dsk.crash D m82.l)) 3).1) none) w945 F927 := ((jo_good _ _ _).only h929 o946 (fun _ _ h => h))
                            exact ⟨_, (by omega), i + 1, (openJ (Dsk.start (Dsk.crash D m82.l)) 3).1, none, LA, Aa, ca, LS, As, cs, F927, rfl, Hz.cut ⟨rfl, rfl, rfl, rfl, rfl, rfl, rfl, rfl, trivial⟩, (by omega), (LInv.mono hn942.2.1), (by omega), okA, okS, O963, (ow_low r956 (Nat.le_refl _)), (ow_low r961 (Nat.le_refl _)), T964, hge935, sp957, sp962⟩
                        · -- else17
                          have q965 : oj925.isSome = true := (nt_f hc938)
                          obtain ⟨g966, J967, hj968⟩ := isS_t q965; subst hj968
                          have h969 : (JT b21 g966 ((openJ (Dsk.start (Dsk.crash D m82.l)) 3).1) J967) w926 F927 := h929
                          obtain ⟨hz970, hs971, hs972, hL973⟩ := lasts_s hop924 hm928
                          rw [hz970] at Hz
                          refine wp_skip ?_
                          refine hK936 _ _ ?_
                          refine wp_seq_k fun K974 hK974 => ?_
                          -- law.go:190
                          refine wp_region_lit ?_
                          refine L (r_mv Hz rfl) Hz rfl ?_
                          clear Hz az; intro az Hz
                          have okl980 := okB (BothT.l (X := JB b21 g966 J967) h969)
                          refine LC Hz rfl rfl Tryd.call10 (all_b (BothT.l (X := JB b21 g966 J967) h969) (Nat.le_trans (linv_n hL973 (by omega)).2 (by decide))) rfl ?_
                          rintro e w975 ⟨A976, c977, rfl, r978, o979⟩; refine ⟨_, rfl, ?_⟩
                          clear Hz az; intro az Hz
                          refine L (r_as Hz rfl) Hz rfl ?_
                          clear Hz az; intro az Hz
                          refine hK974 _ _ ?_
                          refine wp_seq_k fun K981 hK981 => ?_
                          refine wp_seq_k fun K982 hK982 => ?_
                          -- law.go:191
                          refine wp_region_lit ?_
                          refine L (r_mv Hz rfl) Hz rfl ?_
                          clear Hz az; intro az Hz
                          refine L (r_neRI Hz rfl rfl) Hz rfl ?_
                          clear Hz az; intro az Hz
                          refine L (r_mv Hz rfl) Hz rfl ?_
                          clear Hz az; intro az Hz
                          refine LT Hz rfl rfl (r_mv Hz rfl) rfl ?_
                          clear Hz az; intro az Hz
                          refine LT Hz rfl rfl (r_mv Hz rfl) rfl ?_
                          clear Hz az; intro az Hz
                          have O985 : Only NoF w59 w89 := (o_sg (o_sg o70 s75 (Nat.le_refl _) (oneF_ge hg72)) s90 (Nat.le_refl _) (oneF_ge hg72))
                          have sp984 : ∀ k, ownF (.slice Aa (LA.length) ca) k → ¬ Foot.all F905 k := sep_nexto sA (fun k hk => Nat.lt_of_lt_of_le (ownF_lt rA k hk) (size_only O985)) fm908 fr909
                          have O987 := (Only.trans (Only.trans (Only.trans (Only.trans (Only.refl (fun _ => True) w59) o70 (fun _ _ => .inl trivial)) s75 (fun _ _ => .inl trivial)) s90 (fun _ _ => .inl trivial)) o907 (fun _ _ => .inl trivial))
                          have sp986 : ∀ k, ownF (.slice Aa (LA.length) ca) k → ¬ Foot.all F914 k := sep_nexto sp984 (fun k hk => Nat.lt_of_lt_of_le (ownF_lt rA k hk) (size_only O987)) fm917 fr918
                          have r988 := (ow_k (ow_only (ow_only (ow_only (ow_only (ow_only (ow_k rA o70) s75 (fun k hk => lt_F (oneF_ge hg72) (Nat.le_refl _) k (ownF_lt rA k hk))) s90 (fun k hk => lt_F (oneF_ge hg72) (Nat.le_refl _) k (ownF_lt rA k hk))) o907 (fun k hk hF => sA k hk (.inl hF))) o916 (fun k hk hF => sp984 k hk (.inl hF))) o930 (fun k hk hF => sp986 k hk (.inl hF))) o979)
                          have h983 := SliceOf.pl (Row.own KStr r988 okA)
                          have h989 := SliceOf.pl (Row.own KStr r978 okl980)
                          refine LGV (v := .bool (true)) Hz rfl rfl gd_f rfl (fun hb => rfl) Tryd.call30 (fun hb => begins_v_ h983 h989 hs972) rfl fun w990 o991 => ?_
                          clear Hz az; intro az Hz
                          refine LT Hz rfl rfl (r_not Hz rfl) rfl ?_
                          clear Hz az; intro az Hz
                          refine L (r_pick Hz rfl rfl rfl) Hz rfl ?_
                          clear Hz az; intro az Hz
                          refine L (r_mv Hz rfl) Hz rfl ?_
                          clear Hz az; intro az Hz
                          refine LT Hz rfl rfl (r_mv Hz rfl) rfl ?_
                          clear Hz az; intro az Hz
                          refine LT Hz rfl rfl (r_mv Hz rfl) rfl ?_
                          clear Hz az; intro az Hz
                          have r993 := (ow_k r978 o991)
                          have h992 := SliceOf.pl (Row.own KStr r993 okl980)
                          have sp995 : ∀ k, ownF (.slice As (LS.length) cs) k → ¬ Foot.all F905 k := sep_nexto sS (fun k hk => Nat.lt_of_lt_of_le (ownF_lt rS k hk) (size_only O985)) fm908 fr909
                          have sp996 : ∀ k, ownF (.slice As (LS.length) cs) k → ¬ Foot.all F914 k := sep_nexto sp995 (fun k hk => Nat.lt_of_lt_of_le (ownF_lt rS k hk) (size_only O987)) fm917 fr918
                          have r997 := (ow_k (ow_k (ow_only (ow_only (ow_only (ow_only (ow_only (ow_k rS o70) s75 (fun k hk => lt_F (oneF_ge hg72) (Nat.le_refl _) k (ownF_lt rS k hk))) s90 (fun k hk => lt_F (oneF_ge hg72) (Nat.le_refl _) k (ownF_lt rS k hk))) o907 (fun k hk hF => sS k hk (.inl hF))) o916 (fun k hk hF => sp995 k hk (.inl hF))) o930 (fun k hk hF => sp996 k hk (.inl hF))) o979) o991)
                          have h994 := SliceOf.pl (Row.own KStr r997 okS)
                          refine LGV (v := .bool (true)) Hz rfl rfl gd_f rfl (fun hb => rfl) Tryd.call30 (fun hb => begins_v_ h992 h994 hs971) rfl fun w998 o999 => ?_
                          clear Hz az; intro az Hz
                          refine LT Hz rfl rfl (r_not Hz rfl) rfl ?_
                          clear Hz az; intro az Hz
                          refine L (r_pick Hz rfl rfl rfl) Hz rfl ?_
                          clear Hz az; intro az Hz
                          refine hK982 _ _ ?_
                          refine br_false Hz rfl ?_
                          refine wp_skip ?_
                          refine hK981 _ _ ?_
                          refine wp_seq_k fun K1000 hK1000 => ?_
                          -- law.go:194
                          refine wp_region_lit ?_
                          refine L (r_mv Hz rfl) Hz rfl ?_
                          clear Hz az; intro az Hz
                          refine L (r_as Hz rfl) Hz rfl ?_
                          clear Hz az; intro az Hz
                          refine hK1000 _ _ ?_
                          -- law.go:195
                          refine wp_region_lit ?_
                          refine L (r_mv Hz rfl) Hz rfl ?_
                          clear Hz az; intro az Hz
                          refine L (r_as Hz rfl) Hz rfl ?_
                          clear Hz az; intro az Hz
                          refine hK66 _ _ ?_
                          -- law.go:144
                          refine wp_region_lit ?_
                          refine L (r_mv Hz rfl) Hz rfl ?_
                          clear Hz az; intro az Hz
                          have i1001 : I64 (((i : Int) + 1)) := by unfold I64; omega
                          refine L (r_addI (r := ((i : Int) + 1)) Hz rfl rfl rfl i1001) Hz rfl ?_
                          clear Hz az; intro az Hz
                          refine L (r_as Hz rfl) Hz rfl ?_
                          clear Hz az; intro az Hz
                          have r1002 := (ow_k r993 o999)
                          have O1003 : Only NoF w w926 := (o_sg O934 o930 (Nat.le_refl _) (fun k h => hge920 k (.inl h)))
                          have O1004 : Only NoF w w998 := (Only.trans' (Only.trans' (Only.trans' O1003 o979) o991) o999)
                          have O1005 : Only NoF w926 w998 := (Only.trans' (Only.trans' o979 o991) o999)
                          have T1006 : (JT b21 g966 ((openJ (Dsk.start (Dsk.crash D m82.l)) 3).1) J967) w998 F927 := ((jt_good _ _ _ _).only h969 O1005 (fun _ _ h => h))
                          exact ⟨_, (by omega), i + 1, (openJ (Dsk.start (Dsk.crash D m82.l)) 3).1, some (g966, J967), J967.l, A976, c977, J967.l, A976, c977, F927, rfl, Hz.cut ⟨rfl, rfl, rfl, rfl, rfl, rfl, rfl, rfl, trivial⟩, (by omega), (LInv.mono hL973), (by have := linv_l hL973; omega), okl980, okl980, O1004, (ow_low r1002 ((size_only O1003))), (ow_low r1002 ((size_only O1003))), T1006, hge935, (fun k hk h => absurd ((jo_good _ _ _).lt h929 _ h) (Nat.not_lt.2 (Nat.le_trans (Nat.le_refl _) (ownF_ge r978 k hk)))), (fun k hk h => absurd ((jo_good _ _ _).lt h929 _ h) (Nat.not_lt.2 (Nat.le_trans (Nat.le_refl _) (ownF_ge r978 k hk))))⟩
                      · -- else16
                        have p1007 := of_decide_eq_false hc900
                        refine wp_skip ?_
                        refine hK898 _ _ ?_
                        refine wp_seq_k fun K1008 hK1008 => ?_
                        -- law.go:181
                        refine wp_region_lit ?_
                        refine L (r_mv Hz rfl) Hz rfl ?_
                        clear Hz az; intro az Hz
                        have T1009 : (JO b21 D oj) w89 F := ((jo_good _ _ _).only ((jo_good _ _ _).only ((jo_good _ _ _).only hT o70 (fun _ _ h => h)) s75 (fun k hk (e : k = g68) => (fun h => absurd ((jo_good _ _ _).lt hT _ h) (Nat.not_lt.2 (Nat.le_trans (Nat.le_refl _) hg72))) (by rw [← e]; exact hk))) s90 (fun k hk (e : k = g68) => (fun h => absurd ((jo_good _ _ _).lt hT _ h) (Nat.not_lt.2 (Nat.le_trans (Nat.le_refl _) hg72))) (by rw [← e]; exact hk)))
                        refine LC Hz rfl rfl Tryd.call27 (start_o (show JO b21 D oj w89 F from T1009)) rfl ?_
                        rintro e w1010 ⟨rfl, F1011, h1012, o1013, fm1014, fr1015⟩; refine ⟨_, rfl, ?_⟩
                        have O1016 : Only NoF w w89 := (o_sg O87 s90 (size_only o60) (oneF_ge hg72))
                        have hge1017 := ge_next hgeT (size_only O1016) fm1014 fr1015
                        clear Hz az; intro az Hz
                        have hL1018 := (LInv.start hL)
                        refine hK1008 _ _ ?_
                        refine wp_seq_k fun K1019 hK1019 => ?_
                        -- law.go:182
                        refine wp_region_lit ?_
                        refine L (r_as Hz rfl) Hz rfl ?_
                        clear Hz az; intro az Hz
                        refine hK1019 _ _ ?_
                        refine wp_seq_k fun K1020 hK1020 => ?_
                        -- law.go:183
                        refine wp_region_lit ?_
                        refine L (r_mv Hz rfl) Hz rfl ?_
                        clear Hz az; intro az Hz
                        have hop1021 := lasts_open hL1018 rfl
                        have O1031 : Only NoF w w1010 := (o_sg O1016 o1013 (Nat.le_refl _) (fun k h => hgeT k (.inl h)))
                        have G1030 := Gr.k hG O1031
                        refine LC Hz rfl rfl Tryd.call9 (open_o G1030 (show JO b21 (Dsk.start D) oj w1010 F1011 from h1012) (fun k hk => Nat.le_trans (Nat.le_trans hG.1 (Nat.le_refl _)) (hge1017 k (.inl hk)))) rfl ?_
                        rintro e w1023 ⟨oj1022, hm1025, rfl, F1024, h1026, o1027, fm1028, fr1029⟩; refine ⟨_, rfl, ?_⟩
                        have hge1032 := ge_next hge1017 (size_only O1031) fm1028 fr1029
                        clear Hz az; intro az Hz
                        refine L (r_mv Hz rfl) Hz rfl ?_
                        clear Hz az; intro az Hz
                        refine L (r_ex Hz rfl rfl) Hz rfl ?_
                        clear Hz az; intro az Hz
                        refine L (r_ex Hz rfl rfl) Hz rfl ?_
                        clear Hz az; intro az Hz
                        refine L (r_as Hz rfl) Hz rfl ?_
                        clear Hz az; intro az Hz
                        refine L (r_as Hz rfl) Hz rfl ?_
                        clear Hz az; intro az Hz
                        refine hK1020 _ _ ?_
                        refine wp_seq_k fun K1033 hK1033 => ?_
                        refine wp_seq_k fun K1034 hK1034 => ?_
                        -- law.go:184
                        refine wp_region_lit ?_
                        refine L (r_mv Hz rfl) Hz rfl ?_
                        clear Hz az; intro az Hz
                        refine L (r_eqJ Tryd.underlying27 Hz rfl rfl) Hz rfl ?_
                        clear Hz az; intro az Hz
                        refine hK1034 _ _ ?_
                        refine br Hz rfl (fun hc1035 => ?_) (fun hc1035 => ?_)
                        · -- if17
                          have q1036 : oj1022.isSome = false := (nt_t hc1035)
                          have hj1037 := isS_f q1036; subst hj1037
                          have h1038 : (DiskT b21 ((openJ (Dsk.start D) 3).1)) w1023 F1024 := h1026
                          have hn1039 := lasts_n hop1021 hm1025
                          refine wp_seq_k fun K1040 hK1040 => ?_
                          refine wp_seq_k fun K1041 hK1041 => ?_
                          -- law.go:185
                          refine wp_region_lit ?_
                          refine L (r_mv Hz rfl) Hz rfl ?_
                          clear Hz az; intro az Hz
                          refine LCV (v := .bool (((decide ((openJ (Dsk.start D) 3).2.1 = 8)) || (decide ((openJ (Dsk.start D) 3).2.1 = 9))))) Hz rfl rfl Tryd.call29 (disky_v _ ((openJ (Dsk.start D) 3).2.1)) rfl fun w1042 o1043 => ?_
                          clear Hz az; intro az Hz
                          refine L (r_not Hz rfl) Hz rfl ?_
                          clear Hz az; intro az Hz
                          refine L (r_mv Hz rfl) Hz rfl ?_
                          clear Hz az; intro az Hz
                          refine LG Hz rfl rfl gd_f (fun hb => r_mv Hz rfl) rfl ?_
                          clear Hz az; intro az Hz
                          refine LG Hz rfl rfl gd_f (fun hb => r_mv Hz rfl) rfl ?_
                          clear Hz az; intro az Hz
                          refine LG Hz rfl rfl gd_f (fun hb => r_lenL Tryd.underlying44 Hz (evg hb rfl)) rfl ?_
                          clear Hz az; intro az Hz
                          refine LG Hz rfl rfl gd_f (fun hb => r_eqI Hz (evg hb rfl) (evg hb rfl)) rfl ?_
                          clear Hz az; intro az Hz
                          refine L (r_or Hz rfl rfl rfl) Hz rfl ?_
                          clear Hz az; intro az Hz
                          refine hK1041 _ _ ?_
                          refine br Hz rfl (fun hc1044 => ?_) (fun hc1044 => ?_)
                          · -- if18
                            have d1045 := hc1044
                            exact absurd hc1044 (lasts_18 hn1039.1 (by omega))
                          · -- else18
                            have d1046 := (nt_f (or_f hc1044).1)
                            have p1047 := of_decide_eq_false (or_f hc1044).2
                            refine wp_skip ?_
                            refine hK1040 _ _ ?_
                            refine wp_exit ?_
                            refine th_exit ?_
                            refine ib_miss rfl ?_
                            refine ib_hit ?_
                            refine hK66 _ _ ?_
                            -- law.go:144
                            refine wp_region_lit ?_
                            refine L (r_mv Hz rfl) Hz rfl ?_
                            clear Hz az; intro az Hz
                            have i1048 : I64 (((i : Int) + 1)) := by unfold I64; omega
                            refine L (r_addI (r := ((i : Int) + 1)) Hz rfl rfl rfl i1048) Hz rfl ?_
                            clear Hz az; intro az Hz
                            refine L (r_as Hz rfl) Hz rfl ?_
                            clear Hz az; intro az Hz
                            have O1050 : Only NoF w59 w89 := (o_sg (o_sg o70 s75 (Nat.le_refl _) (oneF_ge hg72)) s90 (Nat.le_refl _) (oneF_ge hg72))
                            have sp1049 : ∀ k, ownF (.slice Aa (LA.length) ca) k → ¬ Foot.all F1011 k := sep_nexto sA (fun k hk => Nat.lt_of_lt_of_le (ownF_lt rA k hk) (size_only O1050)) fm1014 fr1015
                            have r1051 := (ow_k (ow_only (ow_only (ow_only (ow_only (ow_k rA o70) s75 (fun k hk => lt_F (oneF_ge hg72) (Nat.le_refl _) k (ownF_lt rA k hk))) s90 (fun k hk => lt_F (oneF_ge hg72) (Nat.le_refl _) k (ownF_lt rA k hk))) o1013 (fun k hk hF => sA k hk (.inl hF))) o1027 (fun k hk hF => sp1049 k hk (.inl hF))) o1043)
                            have O1053 := (Only.trans (Only.trans (Only.trans (Only.trans (Only.refl (fun _ => True) w59) o70 (fun _ _ => .inl trivial)) s75 (fun _ _ => .inl trivial)) s90 (fun _ _ => .inl trivial)) o1013 (fun _ _ => .inl trivial))
                            have sp1052 : ∀ k, ownF (.slice Aa (LA.length) ca) k → ¬ Foot.all F1024 k := sep_nexto sp1049 (fun k hk => Nat.lt_of_lt_of_le (ownF_lt rA k hk) (size_only O1053)) fm1028 fr1029
                            have sp1054 : ∀ k, ownF (.slice As (LS.length) cs) k → ¬ Foot.all F1011 k := sep_nexto sS (fun k hk => Nat.lt_of_lt_of_le (ownF_lt rS k hk) (size_only O1050)) fm1014 fr1015
                            have r1055 := (ow_k (ow_only (ow_only (ow_only (ow_only (ow_k rS o70) s75 (fun k hk => lt_F (oneF_ge hg72) (Nat.le_refl _) k (ownF_lt rS k hk))) s90 (fun k hk => lt_F (oneF_ge hg72) (Nat.le_refl _) k (ownF_lt rS k hk))) o1013 (fun k hk hF => sS k hk (.inl hF))) o1027 (fun k hk hF => sp1054 k hk (.inl hF))) o1043)
                            have sp1056 : ∀ k, ownF (.slice As (LS.length) cs) k → ¬ Foot.all F1024 k := sep_nexto sp1054 (fun k hk => Nat.lt_of_lt_of_le (ownF_lt rS k hk) (size_only O1053)) fm1028 fr1029
                            have O1057 : Only NoF w w1042 := (Only.trans' (o_sg O1031 o1027 (Nat.le_refl _) (fun k h => hge1017 k (.inl h))) o1043)
                            have T1058 : (JO b21 ((openJ (Dsk.start D) 3).1) none) w1042 F1024 := ((jo_good _ _ _).only h1026 o1043 (fun _ _ h => h))
                            exact ⟨_, (by omega), i + 1, (openJ (Dsk.start D) 3).1, none, LA, Aa, ca, LS, As, cs, F1024, rfl, Hz.cut ⟨rfl, rfl, rfl, rfl, rfl, rfl, rfl, rfl, trivial⟩, (by omega), (LInv.mono hn1039.2.1), (by omega), okA, okS, O1057, (ow_low r1051 (Nat.le_refl _)), (ow_low r1055 (Nat.le_refl _)), T1058, hge1032, sp1052, sp1056⟩
                        · -- else17
                          have q1059 : oj1022.isSome = true := (nt_f hc1035)
                          obtain ⟨g1060, J1061, hj1062⟩ := isS_t q1059; subst hj1062
                          have h1063 : (JT b21 g1060 ((openJ (Dsk.start D) 3).1) J1061) w1023 F1024 := h1026
                          obtain ⟨hz1064, hs1065, hs1066, hL1067⟩ := lasts_s hop1021 hm1025
                          rw [hz1064] at Hz
                          refine wp_skip ?_
                          refine hK1033 _ _ ?_
                          refine wp_seq_k fun K1068 hK1068 => ?_
                          -- law.go:190
                          refine wp_region_lit ?_
                          refine L (r_mv Hz rfl) Hz rfl ?_
                          clear Hz az; intro az Hz
                          have okl1074 := okB (BothT.l (X := JB b21 g1060 J1061) h1063)
                          refine LC Hz rfl rfl Tryd.call10 (all_b (BothT.l (X := JB b21 g1060 J1061) h1063) (Nat.le_trans (linv_n hL1067 (by omega)).2 (by decide))) rfl ?_
                          rintro e w1069 ⟨A1070, c1071, rfl, r1072, o1073⟩; refine ⟨_, rfl, ?_⟩
                          clear Hz az; intro az Hz
                          refine L (r_as Hz rfl) Hz rfl ?_
                          clear Hz az; intro az Hz
                          refine hK1068 _ _ ?_
                          refine wp_seq_k fun K1075 hK1075 => ?_
                          refine wp_seq_k fun K1076 hK1076 => ?_
                          -- law.go:191
                          refine wp_region_lit ?_
                          refine L (r_mv Hz rfl) Hz rfl ?_
                          clear Hz az; intro az Hz
                          refine L (r_neRI Hz rfl rfl) Hz rfl ?_
                          clear Hz az; intro az Hz
                          refine L (r_mv Hz rfl) Hz rfl ?_
                          clear Hz az; intro az Hz
                          refine LT Hz rfl rfl (r_mv Hz rfl) rfl ?_
                          clear Hz az; intro az Hz
                          refine LT Hz rfl rfl (r_mv Hz rfl) rfl ?_
                          clear Hz az; intro az Hz
                          have O1079 : Only NoF w59 w89 := (o_sg (o_sg o70 s75 (Nat.le_refl _) (oneF_ge hg72)) s90 (Nat.le_refl _) (oneF_ge hg72))
                          have sp1078 : ∀ k, ownF (.slice Aa (LA.length) ca) k → ¬ Foot.all F1011 k := sep_nexto sA (fun k hk => Nat.lt_of_lt_of_le (ownF_lt rA k hk) (size_only O1079)) fm1014 fr1015
                          have r1080 := (ow_k (ow_only (ow_only (ow_only (ow_only (ow_k rA o70) s75 (fun k hk => lt_F (oneF_ge hg72) (Nat.le_refl _) k (ownF_lt rA k hk))) s90 (fun k hk => lt_F (oneF_ge hg72) (Nat.le_refl _) k (ownF_lt rA k hk))) o1013 (fun k hk hF => sA k hk (.inl hF))) o1027 (fun k hk hF => sp1078 k hk (.inl hF))) o1073)
                          have h1077 := SliceOf.pl (Row.own KStr r1080 okA)
                          have h1081 := SliceOf.pl (Row.own KStr r1072 okl1074)
                          refine LGV (v := .bool (true)) Hz rfl rfl gd_f rfl (fun hb => rfl) Tryd.call30 (fun hb => begins_v_ h1077 h1081 hs1066) rfl fun w1082 o1083 => ?_
                          clear Hz az; intro az Hz
                          refine LT Hz rfl rfl (r_not Hz rfl) rfl ?_
                          clear Hz az; intro az Hz
                          refine L (r_pick Hz rfl rfl rfl) Hz rfl ?_
                          clear Hz az; intro az Hz
                          refine L (r_mv Hz rfl) Hz rfl ?_
                          clear Hz az; intro az Hz
                          refine LT Hz rfl rfl (r_mv Hz rfl) rfl ?_
                          clear Hz az; intro az Hz
                          refine LT Hz rfl rfl (r_mv Hz rfl) rfl ?_
                          clear Hz az; intro az Hz
                          have r1085 := (ow_k r1072 o1083)
                          have h1084 := SliceOf.pl (Row.own KStr r1085 okl1074)
                          have sp1087 : ∀ k, ownF (.slice As (LS.length) cs) k → ¬ Foot.all F1011 k := sep_nexto sS (fun k hk => Nat.lt_of_lt_of_le (ownF_lt rS k hk) (size_only O1079)) fm1014 fr1015
                          have r1088 := (ow_k (ow_k (ow_only (ow_only (ow_only (ow_only (ow_k rS o70) s75 (fun k hk => lt_F (oneF_ge hg72) (Nat.le_refl _) k (ownF_lt rS k hk))) s90 (fun k hk => lt_F (oneF_ge hg72) (Nat.le_refl _) k (ownF_lt rS k hk))) o1013 (fun k hk hF => sS k hk (.inl hF))) o1027 (fun k hk hF => sp1087 k hk (.inl hF))) o1073) o1083)
                          have h1086 := SliceOf.pl (Row.own KStr r1088 okS)
                          refine LGV (v := .bool (true)) Hz rfl rfl gd_f rfl (fun hb => rfl) Tryd.call30 (fun hb => begins_v_ h1084 h1086 hs1065) rfl fun w1089 o1090 => ?_
                          clear Hz az; intro az Hz
                          refine LT Hz rfl rfl (r_not Hz rfl) rfl ?_
                          clear Hz az; intro az Hz
                          refine L (r_pick Hz rfl rfl rfl) Hz rfl ?_
                          clear Hz az; intro az Hz
                          refine hK1076 _ _ ?_
                          refine br_false Hz rfl ?_
                          refine wp_skip ?_
                          refine hK1075 _ _ ?_
                          refine wp_seq_k fun K1091 hK1091 => ?_
                          -- law.go:194
                          refine wp_region_lit ?_
                          refine L (r_mv Hz rfl) Hz rfl ?_
                          clear Hz az; intro az Hz
                          refine L (r_as Hz rfl) Hz rfl ?_
                          clear Hz az; intro az Hz
                          refine hK1091 _ _ ?_
                          -- law.go:195
                          refine wp_region_lit ?_
                          refine L (r_mv Hz rfl) Hz rfl ?_
                          clear Hz az; intro az Hz
                          refine L (r_as Hz rfl) Hz rfl ?_
                          clear Hz az; intro az Hz
                          refine hK66 _ _ ?_
                          -- law.go:144
                          refine wp_region_lit ?_
                          refine L (r_mv Hz rfl) Hz rfl ?_
                          clear Hz az; intro az Hz
                          have i1092 : I64 (((i : Int) + 1)) := by unfold I64; omega
                          refine L (r_addI (r := ((i : Int) + 1)) Hz rfl rfl rfl i1092) Hz rfl ?_
                          clear Hz az; intro az Hz
                          refine L (r_as Hz rfl) Hz rfl ?_
                          clear Hz az; intro az Hz
                          have r1093 := (ow_k r1085 o1090)
                          have O1094 : Only NoF w w1023 := (o_sg O1031 o1027 (Nat.le_refl _) (fun k h => hge1017 k (.inl h)))
                          have O1095 : Only NoF w w1089 := (Only.trans' (Only.trans' (Only.trans' O1094 o1073) o1083) o1090)
                          have O1096 : Only NoF w1023 w1089 := (Only.trans' (Only.trans' o1073 o1083) o1090)
                          have T1097 : (JT b21 g1060 ((openJ (Dsk.start D) 3).1) J1061) w1089 F1024 := ((jt_good _ _ _ _).only h1063 O1096 (fun _ _ h => h))
                          exact ⟨_, (by omega), i + 1, (openJ (Dsk.start D) 3).1, some (g1060, J1061), J1061.l, A1070, c1071, J1061.l, A1070, c1071, F1024, rfl, Hz.cut ⟨rfl, rfl, rfl, rfl, rfl, rfl, rfl, rfl, trivial⟩, (by omega), (LInv.mono hL1067), (by have := linv_l hL1067; omega), okl1074, okl1074, O1095, (ow_low r1093 ((size_only O1094))), (ow_low r1093 ((size_only O1094))), T1097, hge1032, (fun k hk h => absurd ((jo_good _ _ _).lt h1026 _ h) (Nat.not_lt.2 (Nat.le_trans (Nat.le_refl _) (ownF_ge r1072 k hk)))), (fun k hk h => absurd ((jo_good _ _ _).lt h1026 _ h) (Nat.not_lt.2 (Nat.le_trans (Nat.le_refl _) (ownF_ge r1072 k hk))))⟩
                    · -- else15
                      have p1098 := of_decide_eq_false hc896
                      refine wp_skip ?_
                      refine hK66 _ _ ?_
                      -- law.go:144
                      refine wp_region_lit ?_
                      refine L (r_mv Hz rfl) Hz rfl ?_
                      clear Hz az; intro az Hz
                      have i1099 : I64 (((i : Int) + 1)) := by unfold I64; omega
                      refine L (r_addI (r := ((i : Int) + 1)) Hz rfl rfl rfl i1099) Hz rfl ?_
                      clear Hz az; intro az Hz
                      refine L (r_as Hz rfl) Hz rfl ?_
                      clear Hz az; intro az Hz
                      have r1100 := (ow_only (ow_only (ow_k rA o70) s75 (fun k hk => lt_F (oneF_ge hg72) (Nat.le_refl _) k (ownF_lt rA k hk))) s90 (fun k hk => lt_F (oneF_ge hg72) (Nat.le_refl _) k (ownF_lt rA k hk)))
                      have r1101 := (ow_only (ow_only (ow_k rS o70) s75 (fun k hk => lt_F (oneF_ge hg72) (Nat.le_refl _) k (ownF_lt rS k hk))) s90 (fun k hk => lt_F (oneF_ge hg72) (Nat.le_refl _) k (ownF_lt rS k hk)))
                      have O1102 : Only NoF w w89 := (o_sg O87 s90 (size_only o60) (oneF_ge hg72))
                      have T1103 : (JO b21 D oj) w89 F := ((jo_good _ _ _).only ((jo_good _ _ _).only ((jo_good _ _ _).only hT o70 (fun _ _ h => h)) s75 (fun k hk (e : k = g68) => (fun h => absurd ((jo_good _ _ _).lt hT _ h) (Nat.not_lt.2 (Nat.le_trans (Nat.le_refl _) hg72))) (by rw [← e]; exact hk))) s90 (fun k hk (e : k = g68) => (fun h => absurd ((jo_good _ _ _).lt hT _ h) (Nat.not_lt.2 (Nat.le_trans (Nat.le_refl _) hg72))) (by rw [← e]; exact hk)))
                      exact ⟨_, (by omega), i + 1, D, oj, LA, Aa, ca, LS, As, cs, F, rfl, Hz.cut ⟨rfl, rfl, rfl, rfl, rfl, rfl, rfl, rfl, trivial⟩, (by omega), (LInv.mono hL), (by omega), okA, okS, O1102, (ow_low r1100 (Nat.le_refl _)), (ow_low r1101 (Nat.le_refl _)), T1103, hgeT, sA, sS⟩
        · -- else4
          have p1104 := of_decide_eq_false hc79
          refine wp_seq_k fun K1105 hK1105 => ?_
          -- law.go:149
          refine wp_region_lit ?_
          refine L (r_mv Hz rfl) Hz rfl ?_
          clear Hz az; intro az Hz
          have T1106 : (JO b21 D oj) w74 F := ((jo_good _ _ _).only ((jo_good _ _ _).only hT o70 (fun _ _ h => h)) s75 (fun k hk (e : k = g68) => (fun h => absurd ((jo_good _ _ _).lt hT _ h) (Nat.not_lt.2 (Nat.le_trans (Nat.le_refl _) hg72))) (by rw [← e]; exact hk)))
          refine LC Hz rfl rfl Tryd.call25 (lose_o (n := 0) (show JO b21 D oj w74 F from T1106) (by unfold I64; omega)) rfl ?_
          rintro e w1107 ⟨rfl, F1108, h1109, o1110, fm1111, fr1112⟩; refine ⟨_, rfl, ?_⟩
          have O1113 : Only NoF w w74 := (o_sg (Only.trans' o60 o70) s75 (size_only o60) (oneF_ge hg72))
          have hge1114 := ge_next hgeT (size_only O1113) fm1111 fr1112
          clear Hz az; intro az Hz
          have hL1115 := (LInv.lose (n := 0) hL (by unfold I64; omega))
          refine hK1105 _ _ ?_
          -- law.go:150
          refine wp_region_lit ?_
          refine L (r_mv Hz rfl) Hz rfl ?_
          clear Hz az; intro az Hz
          have O1116 : Only NoF w w1107 := (o_sg O1113 o1110 (Nat.le_refl _) (fun k h => hgeT k (.inl h)))
          refine LC Hz rfl rfl Tryd.call28 (arm_o (n := 0) (show JO b21 (Dsk.lose D 0) oj w1107 F1108 from h1109) (SliceOf.nil_ _ _ _) O1116 (by decide) (by unfold I64; omega)) rfl ?_
          rintro e w1117 ⟨rfl, F1118, h1119, o1120, fm1121, fr1122⟩; refine ⟨_, rfl, ?_⟩
          have hge1123 := ge_next hge1114 (size_only O1116) fm1121 fr1122
          clear Hz az; intro az Hz
          have hL1124 := (LInv.arm (n := 0) (keep := []) hL1115 (by unfold I64; omega) (by decide))
          refine hK77 _ _ ?_
          refine wp_seq_k fun K1125 hK1125 => ?_
          -- law.go:152
          refine wp_region_lit ?_
          refine L (r_fa (m' := 0) Tryd.underlying49 rfl Tryd.sizeOf3 rfl Hz rfl rfl) Hz rfl ?_
          clear Hz az; intro az Hz
          have O1126 := (Only.trans (Only.refl (fun _ => True) w69) s75 (fun _ _ => .inl trivial))
          have sp1127 : ¬ Foot.all F1108 g68 := sep_next (fun h => absurd ((jo_good _ _ _).lt hT _ h) (Nat.not_lt.2 (Nat.le_trans (Nat.le_refl _) hg72))) (Nat.lt_of_lt_of_le hl73 (size_only O1126)) fm1111 fr1112
          have B1128 := (Blk.only (Blk.only B76 o1110 (fun h => (fun h => absurd ((jo_good _ _ _).lt hT _ h) (Nat.not_lt.2 (Nat.le_trans (Nat.le_refl _) hg72))) (.inl h))) o1120 (fun h => sp1127 (.inl h)))
          refine L (r_ld Tryd.isAgg3 Hz rfl ((Blk.ca B1128) 0 _ rfl)) Hz rfl ?_
          clear Hz az; intro az Hz
          refine hK1125 _ _ ?_
          refine wp_block ?_
          refine wp_seq_k fun K1129 hK1129 => ?_
          -- law.go:153
          refine wp_region_lit ?_
          refine L (r_eqIl Hz rfl rfl (by decide)) Hz rfl ?_
          clear Hz az; intro az Hz
          refine L (r_as Hz rfl) Hz rfl ?_
          clear Hz az; intro az Hz
          refine hK1129 _ _ ?_
          refine br_false Hz rfl ?_
          refine wp_seq_k fun K1130 hK1130 => ?_
          -- law.go:166
          refine wp_region_lit ?_
          refine L (r_eqIl Hz rfl rfl (by decide)) Hz rfl ?_
          clear Hz az; intro az Hz
          refine L (r_as Hz rfl) Hz rfl ?_
          clear Hz az; intro az Hz
          refine hK1130 _ _ ?_
          refine br_false Hz rfl ?_
          refine wp_seq_k fun K1131 hK1131 => ?_
          -- law.go:173
          refine wp_region_lit ?_
          refine L (r_eqIl Hz rfl rfl (by decide)) Hz rfl ?_
          clear Hz az; intro az Hz
          refine L (r_as Hz rfl) Hz rfl ?_
          clear Hz az; intro az Hz
          refine hK1131 _ _ ?_
          refine br_false Hz rfl ?_
          refine wp_seq_k fun K1132 hK1132 => ?_
          -- law.go:175
          refine wp_region_lit ?_
          refine L (r_eqIl Hz rfl rfl (by decide)) Hz rfl ?_
          clear Hz az; intro az Hz
          refine L (r_as Hz rfl) Hz rfl ?_
          clear Hz az; intro az Hz
          refine hK1132 _ _ ?_
          refine br_false Hz rfl ?_
          refine wp_seq_k fun K1133 hK1133 => ?_
          refine wp_seq_k fun K1134 hK1134 => ?_
          -- law.go:177
          refine wp_region_lit ?_
          refine L (r_eqRI Hz rfl rfl) Hz rfl ?_
          clear Hz az; intro az Hz
          refine L (r_as Hz rfl) Hz rfl ?_
          clear Hz az; intro az Hz
          refine hK1134 _ _ ?_
          refine br_true Hz rfl ?_
          refine wp_skip ?_
          refine hK1133 _ _ ?_
          refine br_true Hz rfl ?_
          refine wp_seq_k fun K1135 hK1135 => ?_
          refine wp_seq_k fun K1136 hK1136 => ?_
          -- law.go:178
          refine wp_region_lit ?_
          refine L (r_fa (m' := 0) Tryd.underlying49 rfl Tryd.sizeOf3 rfl Hz rfl rfl) Hz rfl ?_
          clear Hz az; intro az Hz
          refine L (r_ld Tryd.isAgg3 Hz rfl ((Blk.ca B1128) 0 _ rfl)) Hz rfl ?_
          clear Hz az; intro az Hz
          refine L (r_eqRI Hz rfl rfl) Hz rfl ?_
          clear Hz az; intro az Hz
          refine hK1136 _ _ ?_
          refine br_true Hz rfl ?_
          -- law.go:179
          refine wp_region_lit ?_
          refine L (r_mv Hz rfl) Hz rfl ?_
          clear Hz az; intro az Hz
          refine L (r_fa (m' := 3) Tryd.underlying49 rfl Tryd.sizeOf45 rfl Hz rfl rfl) Hz rfl ?_
          clear Hz az; intro az Hz
          refine L (r_ld Tryd.isAgg45 Hz rfl ((Blk.ca B1128) 3 _ rfl)) Hz rfl ?_
          clear Hz az; intro az Hz
          have O1137 : Only NoF w w1117 := (o_sg O1116 o1120 (Nat.le_refl _) (fun k h => hge1114 k (.inl h)))
          refine LC Hz rfl rfl Tryd.call26 (crash_o (show JO b21 (Dsk.arm (Dsk.lose D 0) 0 []) oj w1117 F1118 from h1119) f2 O1137 (by omega) (fun k hk => Nat.le_trans (Nat.le_refl _) (hge1123 k (.inl hk)))) rfl ?_
          rintro e w1138 ⟨rfl, F1139, h1140, o1141, fm1142, fr1143⟩; refine ⟨_, rfl, ?_⟩
          have hge1144 := ge_next hge1123 (size_only O1137) fm1142 fr1143
          clear Hz az; intro az Hz
          have hL1145 := (LInv.crash hL1124 kq)
          refine hK1135 _ _ ?_
          refine wp_seq_k fun K1146 hK1146 => ?_
          -- law.go:181
          refine wp_region_lit ?_
          refine L (r_mv Hz rfl) Hz rfl ?_
          clear Hz az; intro az Hz
          refine LC Hz rfl rfl Tryd.call27 (start_o (show JO b21 (Dsk.crash (Dsk.arm (Dsk.lose D 0) 0 []) kq) oj w1138 F1139 from h1140)) rfl ?_
          rintro e w1147 ⟨rfl, F1148, h1149, o1150, fm1151, fr1152⟩; refine ⟨_, rfl, ?_⟩
          have O1153 : Only NoF w w1138 := (o_sg O1137 o1141 (Nat.le_refl _) (fun k h => hge1123 k (.inl h)))
          have hge1154 := ge_next hge1144 (size_only O1153) fm1151 fr1152
          clear Hz az; intro az Hz
          have hL1155 := (LInv.start hL1145)
          refine hK1146 _ _ ?_
          refine wp_seq_k fun K1156 hK1156 => ?_
          -- law.go:182
          refine wp_region_lit ?_
          refine L (r_as Hz rfl) Hz rfl ?_
          clear Hz az; intro az Hz
          refine hK1156 _ _ ?_
          refine wp_seq_k fun K1157 hK1157 => ?_
          -- law.go:183
          refine wp_region_lit ?_
          refine L (r_mv Hz rfl) Hz rfl ?_
          clear Hz az; intro az Hz
          have hop1158 := lasts_open hL1155 rfl
          have O1168 : Only NoF w w1147 := (o_sg O1153 o1150 (Nat.le_refl _) (fun k h => hge1144 k (.inl h)))
          have G1167 := Gr.k hG O1168
          refine LC Hz rfl rfl Tryd.call9 (open_o G1167 (show JO b21 (Dsk.start (Dsk.crash (Dsk.arm (Dsk.lose D 0) 0 []) kq)) oj w1147 F1148 from h1149) (fun k hk => Nat.le_trans (Nat.le_trans hG.1 (Nat.le_refl _)) (hge1154 k (.inl hk)))) rfl ?_
          rintro e w1160 ⟨oj1159, hm1162, rfl, F1161, h1163, o1164, fm1165, fr1166⟩; refine ⟨_, rfl, ?_⟩
          have hge1169 := ge_next hge1154 (size_only O1168) fm1165 fr1166
          clear Hz az; intro az Hz
          refine L (r_mv Hz rfl) Hz rfl ?_
          clear Hz az; intro az Hz
          refine L (r_ex Hz rfl rfl) Hz rfl ?_
          clear Hz az; intro az Hz
          refine L (r_ex Hz rfl rfl) Hz rfl ?_
          clear Hz az; intro az Hz
          refine L (r_as Hz rfl) Hz rfl ?_
          clear Hz az; intro az Hz
          refine L (r_as Hz rfl) Hz rfl ?_
          clear Hz az; intro az Hz
          refine hK1157 _ _ ?_
          refine wp_seq_k fun K1170 hK1170 => ?_
          refine wp_seq_k fun K1171 hK1171 => ?_
          -- law.go:184
          refine wp_region_lit ?_
          refine L (r_mv Hz rfl) Hz rfl ?_
          clear Hz az; intro az Hz
          refine L (r_eqJ Tryd.underlying27 Hz rfl rfl) Hz rfl ?_
          clear Hz az; intro az Hz
          refine hK1171 _ _ ?_
          refine br Hz rfl (fun hc1172 => ?_) (fun hc1172 => ?_)
          · -- if17
            have q1173 : oj1159.isSome = false := (nt_t hc1172)
            have hj1174 := isS_f q1173; subst hj1174
            have h1175 : (DiskT b21 ((openJ (Dsk.start (Dsk.crash (Dsk.arm (Dsk.lose D 0) 0 []) kq)) 3).1)) w1160 F1161 := h1163
            exact absurd (end_calm _ _) (lasts_n hop1158 hm1162).2.2
          · -- else17
            have q1176 : oj1159.isSome = true := (nt_f hc1172)
            obtain ⟨g1177, J1178, hj1179⟩ := isS_t q1176; subst hj1179
            have h1180 : (JT b21 g1177 ((openJ (Dsk.start (Dsk.crash (Dsk.arm (Dsk.lose D 0) 0 []) kq)) 3).1) J1178) w1160 F1161 := h1163
            obtain ⟨hz1181, hs1182, hs1183, hL1184⟩ := lasts_s hop1158 hm1162
            rw [hz1181] at Hz
            refine wp_skip ?_
            refine hK1170 _ _ ?_
            refine wp_seq_k fun K1185 hK1185 => ?_
            -- law.go:190
            refine wp_region_lit ?_
            refine L (r_mv Hz rfl) Hz rfl ?_
            clear Hz az; intro az Hz
            have okl1191 := okB (BothT.l (X := JB b21 g1177 J1178) h1180)
            refine LC Hz rfl rfl Tryd.call10 (all_b (BothT.l (X := JB b21 g1177 J1178) h1180) (Nat.le_trans (linv_n hL1184 (by omega)).2 (by decide))) rfl ?_
            rintro e w1186 ⟨A1187, c1188, rfl, r1189, o1190⟩; refine ⟨_, rfl, ?_⟩
            clear Hz az; intro az Hz
            refine L (r_as Hz rfl) Hz rfl ?_
            clear Hz az; intro az Hz
            refine hK1185 _ _ ?_
            refine wp_seq_k fun K1192 hK1192 => ?_
            refine wp_seq_k fun K1193 hK1193 => ?_
            -- law.go:191
            refine wp_region_lit ?_
            refine L (r_mv Hz rfl) Hz rfl ?_
            clear Hz az; intro az Hz
            refine L (r_neRI Hz rfl rfl) Hz rfl ?_
            clear Hz az; intro az Hz
            refine L (r_mv Hz rfl) Hz rfl ?_
            clear Hz az; intro az Hz
            refine LT Hz rfl rfl (r_mv Hz rfl) rfl ?_
            clear Hz az; intro az Hz
            refine LT Hz rfl rfl (r_mv Hz rfl) rfl ?_
            clear Hz az; intro az Hz
            have O1196 : Only NoF w59 w74 := (o_sg o70 s75 (Nat.le_refl _) (oneF_ge hg72))
            have sp1195 : ∀ k, ownF (.slice Aa (LA.length) ca) k → ¬ Foot.all F1108 k := sep_nexto sA (fun k hk => Nat.lt_of_lt_of_le (ownF_lt rA k hk) (size_only O1196)) fm1111 fr1112
            have O1198 := (Only.trans (Only.trans (Only.trans (Only.refl (fun _ => True) w59) o70 (fun _ _ => .inl trivial)) s75 (fun _ _ => .inl trivial)) o1110 (fun _ _ => .inl trivial))
            have sp1197 : ∀ k, ownF (.slice Aa (LA.length) ca) k → ¬ Foot.all F1118 k := sep_nexto sp1195 (fun k hk => Nat.lt_of_lt_of_le (ownF_lt rA k hk) (size_only O1198)) fm1121 fr1122
            have O1200 := (Only.trans (Only.trans (Only.trans (Only.trans (Only.refl (fun _ => True) w59) o70 (fun _ _ => .inl trivial)) s75 (fun _ _ => .inl trivial)) o1110 (fun _ _ => .inl trivial)) o1120 (fun _ _ => .inl trivial))
            have sp1199 : ∀ k, ownF (.slice Aa (LA.length) ca) k → ¬ Foot.all F1139 k := sep_nexto sp1197 (fun k hk => Nat.lt_of_lt_of_le (ownF_lt rA k hk) (size_only O1200)) fm1142 fr1143
            have O1202 := (Only.trans (Only.trans (Only.trans (Only.trans (Only.trans (Only.refl (fun _ => True) w59) o70 (fun _ _ => .inl trivial)) s75 (fun _ _ => .inl trivial)) o1110 (fun _ _ => .inl trivial)) o1120 (fun _ _ => .inl trivial)) o1141 (fun _ _ => .inl trivial))
            have sp1201 : ∀ k, ownF (.slice Aa (LA.length) ca) k → ¬ Foot.all F1148 k := sep_nexto sp1199 (fun k hk => Nat.lt_of_lt_of_le (ownF_lt rA k hk) (size_only O1202)) fm1151 fr1152
            have r1203 := (ow_k (ow_only (ow_only (ow_only (ow_only (ow_only (ow_only (ow_k rA o70) s75 (fun k hk => lt_F (oneF_ge hg72) (Nat.le_refl _) k (ownF_lt rA k hk))) o1110 (fun k hk hF => sA k hk (.inl hF))) o1120 (fun k hk hF => sp1195 k hk (.inl hF))) o1141 (fun k hk hF => sp1197 k hk (.inl hF))) o1150 (fun k hk hF => sp1199 k hk (.inl hF))) o1164 (fun k hk hF => sp1201 k hk (.inl hF))) o1190)
            have h1194 := SliceOf.pl (Row.own KStr r1203 okA)
            have h1204 := SliceOf.pl (Row.own KStr r1189 okl1191)
            refine LGV (v := .bool (true)) Hz rfl rfl gd_f rfl (fun hb => rfl) Tryd.call30 (fun hb => begins_v_ h1194 h1204 hs1183) rfl fun w1205 o1206 => ?_
            clear Hz az; intro az Hz
            refine LT Hz rfl rfl (r_not Hz rfl) rfl ?_
            clear Hz az; intro az Hz
            refine L (r_pick Hz rfl rfl rfl) Hz rfl ?_
            clear Hz az; intro az Hz
            refine L (r_mv Hz rfl) Hz rfl ?_
            clear Hz az; intro az Hz
            refine LT Hz rfl rfl (r_mv Hz rfl) rfl ?_
            clear Hz az; intro az Hz
            refine LT Hz rfl rfl (r_mv Hz rfl) rfl ?_
            clear Hz az; intro az Hz
            have r1208 := (ow_k r1189 o1206)
            have h1207 := SliceOf.pl (Row.own KStr r1208 okl1191)
            have sp1210 : ∀ k, ownF (.slice As (LS.length) cs) k → ¬ Foot.all F1108 k := sep_nexto sS (fun k hk => Nat.lt_of_lt_of_le (ownF_lt rS k hk) (size_only O1196)) fm1111 fr1112
            have sp1211 : ∀ k, ownF (.slice As (LS.length) cs) k → ¬ Foot.all F1118 k := sep_nexto sp1210 (fun k hk => Nat.lt_of_lt_of_le (ownF_lt rS k hk) (size_only O1198)) fm1121 fr1122
            have sp1212 : ∀ k, ownF (.slice As (LS.length) cs) k → ¬ Foot.all F1139 k := sep_nexto sp1211 (fun k hk => Nat.lt_of_lt_of_le (ownF_lt rS k hk) (size_only O1200)) fm1142 fr1143
            have sp1213 : ∀ k, ownF (.slice As (LS.length) cs) k → ¬ Foot.all F1148 k := sep_nexto sp1212 (fun k hk => Nat.lt_of_lt_of_le (ownF_lt rS k hk) (size_only O1202)) fm1151 fr1152
            have r1214 := (ow_k (ow_k (ow_only (ow_only (ow_only (ow_only (ow_only (ow_only (ow_k rS o70) s75 (fun k hk => lt_F (oneF_ge hg72) (Nat.le_refl _) k (ownF_lt rS k hk))) o1110 (fun k hk hF => sS k hk (.inl hF))) o1120 (fun k hk hF => sp1210 k hk (.inl hF))) o1141 (fun k hk hF => sp1211 k hk (.inl hF))) o1150 (fun k hk hF => sp1212 k hk (.inl hF))) o1164 (fun k hk hF => sp1213 k hk (.inl hF))) o1190) o1206)
            have h1209 := SliceOf.pl (Row.own KStr r1214 okS)
            refine LGV (v := .bool (true)) Hz rfl rfl gd_f rfl (fun hb => rfl) Tryd.call30 (fun hb => begins_v_ h1207 h1209 hs1182) rfl fun w1215 o1216 => ?_
            clear Hz az; intro az Hz
            refine LT Hz rfl rfl (r_not Hz rfl) rfl ?_
            clear Hz az; intro az Hz
            refine L (r_pick Hz rfl rfl rfl) Hz rfl ?_
            clear Hz az; intro az Hz
            refine hK1193 _ _ ?_
            refine br_false Hz rfl ?_
            refine wp_skip ?_
            refine hK1192 _ _ ?_
            refine wp_seq_k fun K1217 hK1217 => ?_
            -- law.go:194
            refine wp_region_lit ?_
            refine L (r_mv Hz rfl) Hz rfl ?_
            clear Hz az; intro az Hz
            refine L (r_as Hz rfl) Hz rfl ?_
            clear Hz az; intro az Hz
            refine hK1217 _ _ ?_
            -- law.go:195
            refine wp_region_lit ?_
            refine L (r_mv Hz rfl) Hz rfl ?_
            clear Hz az; intro az Hz
            refine L (r_as Hz rfl) Hz rfl ?_
            clear Hz az; intro az Hz
            refine hK66 _ _ ?_
            -- law.go:144
            refine wp_region_lit ?_
            refine L (r_mv Hz rfl) Hz rfl ?_
            clear Hz az; intro az Hz
            have i1218 : I64 (((i : Int) + 1)) := by unfold I64; omega
            refine L (r_addI (r := ((i : Int) + 1)) Hz rfl rfl rfl i1218) Hz rfl ?_
            clear Hz az; intro az Hz
            refine L (r_as Hz rfl) Hz rfl ?_
            clear Hz az; intro az Hz
            have r1219 := (ow_k r1208 o1216)
            have O1220 : Only NoF w w1160 := (o_sg O1168 o1164 (Nat.le_refl _) (fun k h => hge1154 k (.inl h)))
            have O1221 : Only NoF w w1215 := (Only.trans' (Only.trans' (Only.trans' O1220 o1190) o1206) o1216)
            have O1222 : Only NoF w1160 w1215 := (Only.trans' (Only.trans' o1190 o1206) o1216)
            have T1223 : (JT b21 g1177 ((openJ (Dsk.start (Dsk.crash (Dsk.arm (Dsk.lose D 0) 0 []) kq)) 3).1) J1178) w1215 F1161 := ((jt_good _ _ _ _).only h1180 O1222 (fun _ _ h => h))
            exact ⟨_, (by omega), i + 1, (openJ (Dsk.start (Dsk.crash (Dsk.arm (Dsk.lose D 0) 0 []) kq)) 3).1, some (g1177, J1178), J1178.l, A1187, c1188, J1178.l, A1187, c1188, F1161, rfl, Hz.cut ⟨rfl, rfl, rfl, rfl, rfl, rfl, rfl, rfl, trivial⟩, (by omega), (LInv.mono hL1184), (by have := linv_l hL1184; omega), okl1191, okl1191, O1221, (ow_low r1219 ((size_only O1220))), (ow_low r1219 ((size_only O1220))), T1223, hge1169, (fun k hk h => absurd ((jo_good _ _ _).lt h1163 _ h) (Nat.not_lt.2 (Nat.le_trans (Nat.le_refl _) (ownF_ge r1189 k hk)))), (fun k hk h => absurd ((jo_good _ _ _).lt h1163 _ h) (Nat.not_lt.2 (Nat.le_trans (Nat.le_refl _) (ownF_ge r1189 k hk))))⟩
      · -- else3
        have p1224 := of_decide_eq_false hc64
        refine wp_exit ?_
        refine th_exit ?_
        refine th_exit ?_
        refine ib_hit ?_
        refine hK56 _ _ ?_
        refine wp_seq_k fun K1225 hK1225 => ?_
        -- law.go:198
        refine wp_region_lit ?_
        refine L (r_mv Hz rfl) Hz rfl ?_
        clear Hz az; intro az Hz
        refine L (r_as Hz rfl) Hz rfl ?_
        clear Hz az; intro az Hz
        refine hK1225 _ _ ?_
        refine wp_ret ?_
        show bodyPost _ _ _ .ret _ _
        refine ret_of (vs := [.bool (true)]) Hz Tryd.results5 ⟨rfl, trivial⟩ ?_
        exact ⟨rfl, o60⟩

theorem lasts_v {w : World} (hG : Gr w) {v v2 : Value} {l : List OpM} (f1 : OpsV w w v l) {kq : List Int} (f2 : IntsV w v2 kq) : Calls Tryd.prog 5 #[v, v2] w (Fix (.bool true) w) := by
  obtain ⟨A1, c1, rfl, _⟩ := SliceOf.shape f1
  obtain ⟨A2, c2, rfl, _⟩ := SliceOf.shape f2
  exact lasts_v_ hG f1 f2
end Go.Proofs.YtlnadcihnfppaaaDoor
