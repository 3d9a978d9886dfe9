/-
  The seal's reference: Next, Encode, walked. Condition for Next: at most 1000 of each.
-/
import Derived.Test.YtgmnoianhonihaaDoorSW3
import Derived.Test.YtgmnoianhonihaaDoorSW7
import Derived.Test.YtgmnoianhonihaaDoorWW8
namespace Go.Proofs.YtgmnoianhonihaaDoor
set_option linter.unusedVariables false
set_option linter.unusedSimpArgs false
set_option linter.unusedSectionVars false
open Go.RowKit

theorem app_F {v v' : Value} {m k : Nat} (al : v'.ownBlock = v.ownBlock ∨ v'.ownBlock = some m) (h : ownF v' k) : ownF v k ∨ k = m := by
  unfold ownF at h ⊢
  rcases al with al | al
  · rw [al] at h; exact .inl h
  · rw [al] at h; injection h with h; exact .inr h.symm
set_option maxRecDepth 20000 in
set_option maxHeartbeats 4000000 in
theorem rNext_v_ {w : World} {l : List NM} {A1 : Option Addr} {c1 : Nat} (f1 : NotesV w w (.slice A1 l.length c1) l) {q : List RM} {A2 : Option Addr} {c2 : Nat} (f2 : RefsV w (.slice A2 q.length c2) q) {h d : Int} (hh : I64 h) (hd : I64 d) {t : Str} (ht : t.length ≤ maxLen) (hl : l.length ≤ 1000) (hq : q.length ≤ 1000) : Calls Tryd.prog 54 [.slice A1 l.length c1, .int .i64 h, .int .i64 d, .slice A2 q.length c2, strV t].toArray w (NextTo l h d q t w) := by
  refine calls_start Tryd.func54 rfl rfl ?_
  intro az Hz
  rw [Tryd.ntmps54] at Hz
  refine wp_seq_k fun K1 hK1 => ?_
  -- ref.go:78
  refine wp_region_lit ?_
  refine LAl (v := .agg #[.int .i64 (0), .int .i64 (0), .int .i64 (0), .slice none (0) 0, strV ([])]) Tryd.zeroValue54 Hz rfl rfl ?_
  clear Hz az; intro g2 w3 hg6 hl7 o4 B5 az Hz
  refine L (r_as Hz rfl) Hz rfl ?_
  clear Hz az; intro az Hz
  refine hK1 _ _ ?_
  refine wp_seq_k fun K8 hK8 => ?_
  -- ref.go:79
  refine wp_region_lit ?_
  refine L (r_mv Hz rfl) Hz rfl ?_
  clear Hz az; intro az Hz
  refine L (r_mv Hz rfl) Hz rfl ?_
  clear Hz az; intro az Hz
  refine L (r_lenL Tryd.underlying51 Hz rfl) Hz rfl ?_
  clear Hz az; intro az Hz
  refine L (r_mv Hz rfl) Hz rfl ?_
  clear Hz az; intro az Hz
  obtain ⟨A9, w10, hw, hA, r11, o12⟩ := made0 (w := w3) (e := 71) (size := 2)
  refine L (r_bs0 Tryd.underlying52 Tryd.sizeOf71) Hz rfl ?_
  rw [← hw, ← hA]; clear Hz az; intro az Hz
  clear hw hA
  refine L (r_mv Hz rfl) Hz rfl ?_
  clear Hz az; intro az Hz
  have O13 : Only NoF w w10 := (Only.trans' o4 o12)
  have h14 := (SliceOf.kp f2 O13 (fun _ _ h => h) (fun _ _ _ _ h => h))
  have hb22 : (List.length (([] : List RM)) + List.length (q)) * 16 ≤ 140737488355328 := by (simp only [List.length_append, List.length_cons, List.length_nil]; omega)
  obtain ⟨A15, c16, w17, hr18, r19, o20, al21⟩ := Row.app (P := Tryd.prog) (l := ([] : List RM)) (l2 := q) KRef elemRef r11 h14 hb22 (by unfold maxLen; omega) (size_only o12)
  simp only [List.nil_append, List.append_nil] at hr18 r19 al21
  refine L (r_app hr18 Hz rfl rfl) Hz rfl ?_
  clear Hz az; intro az Hz
  have ok23 : ∀ zq ∈ q, KRef.ok zq := (Row.oks KRef h14)
  have h24 := Row.own KRef r19 ok23
  refine L (r_mv Hz rfl) Hz rfl ?_
  clear Hz az; intro az Hz
  refine L (r_bd (v := .agg #[.int .i64 (h), .int .i64 (((l.length : Nat) : Int)), .int .i64 (d), .slice A15 ((q).length) c16, strV (t)]) (build_Note5 _ _ _ _ _ _ _) Hz rfl) Hz rfl ?_
  clear Hz az; intro az Hz
  refine LAl (v := .agg #[.int .i64 (0), .int .i64 (0), .int .i64 (0), .slice none (0) 0, strV ([])]) Tryd.zeroValue54 Hz rfl rfl ?_
  clear Hz az; intro g25 w26 hg29 hl30 o27 B28 az Hz
  refine LSt (cs' := [.int .i64 (h), .int .i64 (((l.length : Nat) : Int)), .int .i64 (d), .slice A15 ((q).length) c16, strV (t)]) Tryd.sizeOf54 Hz rfl rfl rfl rfl rfl ⟨rfl, rfl, rfl, rfl, rfl, trivial⟩ B28 rfl rfl fun w31 s32 B33 => ?_
  refine hK8 _ _ ?_
  refine wp_seq_k fun K34 hK34 => ?_
  have O36 : Only NoF w w17 := (o_sg O13 o20 (size_only o4) (ownF_ge r11))
  have O37 : Only NoF w w31 := (o_sg (Only.trans' (o_sg O13 o20 (size_only o4) (ownF_ge r11)) o27) s32 (size_only O36) (oneF_ge hg29))
  have h38 := (SliceOf.kp f1 O37 (fun _ _ h => h) (fun _ _ _ _ h => h))
  have f35 := notes_up h38 O37
  have r40 := (ow_only (ow_k r19 o27) s32 (fun k hk => lt_F (oneF_ge hg29) (Nat.le_refl _) k (ownF_lt r19 k hk)))
  have hr39 := SliceOf.pl (Row.own KRef r40 ok23)
  have okx41 : (KNote w31).ok (⟨h, ((l.length : Nat) : Int), d, A15, q, c16, t⟩ : NM) := ⟨hh, (by show I64 ((l.length : Nat) : Int); unfold I64; omega), hd, hr39, ht⟩
  -- ref.go:80
  refine reg_p NoF 1 [0, 2, 4, 5, 6] (.rd 1 (.rd 3 (.fork 0 (.fork 2 (.ex 4 (.ex 5 (.ex 6 (.rd 7 .nil)))) 4 (.ex 2 (.ex 5 (.ex 6 (.rd 7 .nil))))) 4 (.ex 0 (.ex 2 (.ex 5 (.ex 6 (.rd 7 .nil)))))))) (by kernel_rfl) (by kernel_rfl) (fun _ _ _ _ _ h => h) fun w42 o43 => ?_
  have B44 := (Blk.k B33 o43)
  refine Pl.MSP (b := false) (by kernel_rfl) (fun W oW => r_mv Hz rfl) Hz rfl rfl ?_
  clear Hz az; intro az Hz
  refine Pl.MSP (b := false) (by kernel_rfl) (fun W oW => r_ldA Tryd.isAgg54 Tryd.sizeOf54 Hz rfl (Blk.ca (Blk.k B44 oW)) rfl) Hz rfl rfl ?_
  clear Hz az; intro az Hz
  refine wpPl_fork ?_ ?_
  · -- 0 first
    obtain ⟨A45, w46, hw, hA, r47, o48⟩ := made0 (w := w42) (e := 54) (size := 5)
    refine Pl.MD (r_bs0 Tryd.underlying51 Tryd.sizeOf54) Hz rfl rfl ?_ ?_
    · rw [← hw]; exact ⟨fun _ => o48, (Only.trans (Only.refl NoF w42) o48 (fun _ h => h.elim))⟩
    rw [← hw, ← hA]; clear Hz az; intro az Hz
    clear hw hA
    refine wpPl_fork ?_ ?_
    · -- 2 first
      have O49 : Only NoF w31 w46 := (Only.trans' o43 o48)
      have h50 := (SliceOf.kp f35 O49 (fun _ _ h => h) (fun _ _ _ _ h => h))
      have hb58 : (List.length (([] : List NM)) + List.length (l)) * 64 ≤ 140737488355328 := by (simp only [List.length_append, List.length_cons, List.length_nil]; omega)
      obtain ⟨A51, c52, w53, hr54, r55, o56, al57⟩ := Row.app (P := Tryd.prog) (l := ([] : List NM)) (l2 := l) (KNote w31) elemNote r47 h50 hb58 (by unfold maxLen; omega) (size_only o48)
      simp only [List.nil_append, List.append_nil] at hr54 r55 al57
      refine Pl.MD (r_app hr54 Hz rfl rfl) Hz rfl rfl ?_ ?_
      · exact ⟨fun h => absurd h (by decide), (Only.trans (Only.trans (Only.refl NoF w42) o48 (fun _ h => h.elim)) o56 (fun k h => .inr (Nat.le_trans (Nat.le_refl _) ((ownF_ge r47) k h))))⟩
      clear Hz az; intro az Hz
      have ok59 : ∀ zq ∈ l, (KNote w31).ok zq := (Row.oks (KNote w31) h50)
      have h60 := Row.own (KNote w31) r55 ok59
      obtain ⟨A61, w62, hw, hA, r63, o64⟩ := Row.made (w := w53) (KNote w31) (e := 54) ([(⟨h, ((l.length : Nat) : Int), d, A15, q, c16, t⟩ : NM)] : List NM) (by simp only [List.length_cons, List.length_nil]; unfold maxLen; omega)
      refine Pl.MD (r_bs (z := .agg #[.int .i64 (0), .int .i64 (0), .int .i64 (0), .slice none (0) 0, strV ([])]) (size := 5) (vs := [(0, .agg #[.int .i64 (h), .int .i64 (((l.length : Nat) : Int)), .int .i64 (d), .slice A15 ((q).length) c16, strV (t)])]) (cs := List.flatMap (KNote w31).cells [(⟨h, ((l.length : Nat) : Int), d, A15, q, c16, t⟩ : NM)]) Tryd.underlying51 Tryd.sizeOf54 Tryd.zeroValue54 rfl (Fr.evalps Hz rfl) (by kernel_rfl)) Hz rfl rfl ?_ ?_
      · rw [← hw]; exact ⟨fun h => absurd h (by decide), (Only.trans (Only.trans (Only.trans (Only.refl NoF w42) o48 (fun _ h => h.elim)) o56 (fun k h => .inr (Nat.le_trans (Nat.le_refl _) ((ownF_ge r47) k h)))) o64 (fun _ h => h.elim))⟩
      rw [← hw, ← hA]; clear Hz az; intro az Hz
      clear hw hA
      have ok65 : ∀ zq ∈ ([(⟨h, ((l.length : Nat) : Int), d, A15, q, c16, t⟩ : NM)] : List NM), (KNote w31).ok zq := by intro zq hx; simp only [List.mem_cons, List.not_mem_nil, or_false] at hx; rcases hx with rfl <;> first | exact okx41
      have r66 := (ow_k r55 o64)
      have h67 := Row.own (KNote w31) r63 ok65
      have h68 := SliceOf.pl h67
      have hb76 : (List.length (l) + List.length ([(⟨h, ((l.length : Nat) : Int), d, A15, q, c16, t⟩ : NM)])) * 64 ≤ 140737488355328 := by (simp only [List.length_append, List.length_cons, List.length_nil]; omega)
      have O77 : Only NoF w42 w62 := (Only.trans' (o_sg o48 o56 (Nat.le_refl _) (ownF_ge r47)) o64)
      obtain ⟨A69, c70, w71, hr72, r73, o74, al75⟩ := Row.app (P := Tryd.prog) (l := l) (l2 := [(⟨h, ((l.length : Nat) : Int), d, A15, q, c16, t⟩ : NM)]) (KNote w31) elemNote r66 h68 hb76 (by unfold maxLen; omega) (size_only O77)
      refine Pl.MD (r_app hr72 Hz rfl rfl) Hz rfl rfl ?_ ?_
      · exact ⟨fun h => absurd h (by decide), (Only.trans (Only.trans (Only.trans (Only.trans (Only.refl NoF w42) o48 (fun _ h => h.elim)) o56 (fun k h => .inr (Nat.le_trans (Nat.le_refl _) ((ownF_ge r47) k h)))) o64 (fun _ h => h.elim)) o74 (fun k h => .inr (Nat.le_trans (Nat.le_refl _) ((ownF_ge r55) k h))))⟩
      clear Hz az; intro az Hz
      have ok78 : ∀ zq ∈ (l ++ [(⟨h, ((l.length : Nat) : Int), d, A15, q, c16, t⟩ : NM)]), (KNote w31).ok zq := (fun x hx => (List.mem_append.1 hx).elim (ok59 x) ((Row.oks (KNote w31) h68) x))
      have h79 := Row.own (KNote w31) r73 ok78
      have h80 := SliceOf.pl h79
      have O81 : Only NoF w31 w71 := (o_sg (Only.trans' (o_sg O49 o56 (size_only o43) (ownF_ge r47)) o64) o74 (size_only o43) (ownF_ge r55))
      refine Pl.MSV (v := .int .i64 ((check (l ++ [(⟨h, ((l.length : Nat) : Int), d, A15, q, c16, t⟩ : NM)])))) Hz rfl rfl rfl Tryd.call61 (rCheck_v (notes_up h80 O81)) rfl (fun w' o' => ⟨fun h => absurd h (by decide), (Only.trans (Only.trans (Only.trans (Only.trans (Only.trans (Only.refl NoF w42) o48 (fun _ h => h.elim)) o56 (fun k h => .inr (Nat.le_trans (Nat.le_refl _) ((ownF_ge r47) k h)))) o64 (fun _ h => h.elim)) o74 (fun k h => .inr (Nat.le_trans (Nat.le_refl _) ((ownF_ge r55) k h)))) o' (fun _ h => h.elim))⟩) fun w82 o83 => ?_
      clear Hz az; intro az Hz
      refine Pl.MSP (b := false) (by kernel_rfl) (fun W oW => r_as Hz rfl) Hz rfl rfl ?_
      clear Hz az; intro az Hz
      refine wpPl_nil ?_
      refine hK34 _ _ ?_
      refine wp_seq_k fun K84 hK84 => ?_
      refine wp_seq_k fun K85 hK85 => ?_
      -- ref.go:81
      refine wp_region_lit ?_
      refine L (r_mv Hz rfl) Hz rfl ?_
      clear Hz az; intro az Hz
      refine L (r_neI Hz rfl rfl) Hz rfl ?_
      clear Hz az; intro az Hz
      refine hK85 _ _ ?_
      refine br Hz rfl (fun hc86 => ?_) (fun hc86 => ?_)
      · -- if0
        have p87 := of_decide_eq_false (nt_t hc86)
        refine wp_seq_k fun K88 hK88 => ?_
        -- ref.go:82
        refine wp_region_lit ?_
        refine L (r_bd (v := .agg #[.int .i64 (0), .int .i64 (0), .int .i64 (0), .slice none (0) 0, strV ([])]) (build_Note0) Hz rfl) Hz rfl ?_
        clear Hz az; intro az Hz
        refine L (r_mv Hz rfl) Hz rfl ?_
        clear Hz az; intro az Hz
        have O90 : Only NoF w3 w17 := (o_sg o12 o20 (Nat.le_refl _) (ownF_ge r11))
        have ne89 : g2 ≠ g25 := (ne_of hl7 (Nat.le_trans (size_only O90) hg29))
        have O91 : Only NoF w3 w42 := (Only.trans' (o_sg (Only.trans' O90 o27) s32 (size_only O90) (oneF_ge hg29)) o43)
        have B92 := (Blk.k (Blk.only (Blk.k (Blk.only (Blk.k (Blk.k (Blk.st (Blk.k (Blk.only (Blk.k B5 o12) o20 (ow_nb r11 (Blk.k B5 o12) (by decide))) o27) s32 ne89) o43) o48) o56 (fun h => absurd ((ownF_ge r47) _ h) (Nat.not_le.2 (Nat.lt_of_lt_of_le hl7 (size_only O91))))) o64) o74 (fun h => absurd ((ownF_ge r55) _ h) (Nat.not_le.2 (Nat.lt_of_lt_of_le hl7 (size_only O91))))) o83)
        refine LSt (cs' := [.int .i64 (0), .int .i64 (0), .int .i64 (0), .slice none (0) 0, strV ([])]) Tryd.sizeOf54 Hz rfl rfl rfl rfl rfl ⟨rfl, rfl, rfl, rfl, rfl, trivial⟩ B92 rfl rfl fun w93 s94 B95 => ?_
        refine L (r_as Hz rfl) Hz rfl ?_
        clear Hz az; intro az Hz
        refine hK88 _ _ ?_
        refine wp_ret ?_
        show bodyPost _ _ _ .ret _ _
        refine ret_of (vs := [.agg #[.int .i64 (0), .int .i64 (0), .int .i64 (0), .slice none (0) 0, strV ([])], .int .i64 ((check (l ++ [(⟨h, ((l.length : Nat) : Int), d, A15, q, c16, t⟩ : NM)])))]) Hz Tryd.results54 ⟨⟨_, rfl, l_ca Tryd.isAgg54 Tryd.sizeOf54 (Blk.ca B95) rfl⟩, rfl, trivial⟩ ?_
        have O96 : Only NoF w w42 := (Only.trans' O37 o43)
        have O97 : Only NoF w w93 := (o_sg (Only.trans' (o_sg (Only.trans' (o_sg (Only.trans' (Only.trans' O37 o43) o48) o56 (size_only O96) (ownF_ge r47)) o64) o74 (size_only O96) (ownF_ge r55)) o83) s94 (Nat.le_refl _) (oneF_ge hg6))
        rw [show check (l ++ [(⟨h, ((l.length : Nat) : Int), d, A15, q, c16, t⟩ : NM)]) = check (l ++ [⟨h, ((l.length : Nat) : Int), d, none, q, 0, t⟩]) from check_last] at *
        exact ⟨_, rfl, O97, .inl ⟨of_decide_eq_false (nt_t hc86), rfl⟩⟩
      · -- else0
        have p98 := of_decide_eq_true (nt_f hc86)
        refine wp_skip ?_
        refine hK84 _ _ ?_
        refine wp_seq_k fun K99 hK99 => ?_
        -- ref.go:84
        refine wp_region_lit ?_
        have O100 := (Only.trans (Only.trans (Only.refl (fun _ => True) w26) s32 (fun _ _ => .inl trivial)) o43 (fun _ _ => .inl trivial))
        have B101 := (Blk.k (Blk.only (Blk.k (Blk.only (Blk.k B44 o48) o56 (fun h => absurd ((ownF_ge r47) _ h) (Nat.not_le.2 (Nat.lt_of_lt_of_le hl30 (size_only O100))))) o64) o74 (fun h => absurd ((ownF_ge r55) _ h) (Nat.not_le.2 (Nat.lt_of_lt_of_le hl30 (size_only O100))))) o83)
        refine L (r_ldA Tryd.isAgg54 Tryd.sizeOf54 Hz rfl (Blk.ca B101) rfl) Hz rfl ?_
        clear Hz az; intro az Hz
        have O103 : Only NoF w3 w17 := (o_sg o12 o20 (Nat.le_refl _) (ownF_ge r11))
        have ne102 : g2 ≠ g25 := (ne_of hl7 (Nat.le_trans (size_only O103) hg29))
        have O104 : Only NoF w3 w42 := (Only.trans' (o_sg (Only.trans' O103 o27) s32 (size_only O103) (oneF_ge hg29)) o43)
        have B105 := (Blk.k (Blk.only (Blk.k (Blk.only (Blk.k (Blk.k (Blk.st (Blk.k (Blk.only (Blk.k B5 o12) o20 (ow_nb r11 (Blk.k B5 o12) (by decide))) o27) s32 ne102) o43) o48) o56 (fun h => absurd ((ownF_ge r47) _ h) (Nat.not_le.2 (Nat.lt_of_lt_of_le hl7 (size_only O104))))) o64) o74 (fun h => absurd ((ownF_ge r55) _ h) (Nat.not_le.2 (Nat.lt_of_lt_of_le hl7 (size_only O104))))) o83)
        refine LSt (cs' := [.int .i64 (h), .int .i64 (((l.length : Nat) : Int)), .int .i64 (d), .slice A15 ((q).length) c16, strV (t)]) Tryd.sizeOf54 Hz rfl rfl rfl rfl rfl ⟨rfl, rfl, rfl, rfl, rfl, trivial⟩ B105 rfl rfl fun w106 s107 B108 => ?_
        refine L (r_as Hz rfl) Hz rfl ?_
        clear Hz az; intro az Hz
        refine hK99 _ _ ?_
        refine wp_ret ?_
        show bodyPost _ _ _ .ret _ _
        refine ret_of (vs := [.agg #[.int .i64 (h), .int .i64 (((l.length : Nat) : Int)), .int .i64 (d), .slice A15 ((q).length) c16, strV (t)], .int .i64 (0)]) Hz Tryd.results54 ⟨⟨_, rfl, l_ca Tryd.isAgg54 Tryd.sizeOf54 (Blk.ca B108) rfl⟩, rfl, trivial⟩ ?_
        have O109 : Only NoF w w42 := (Only.trans' O37 o43)
        have O110 : Only NoF w w106 := (o_sg (Only.trans' (o_sg (Only.trans' (o_sg (Only.trans' (Only.trans' O37 o43) o48) o56 (size_only O109) (ownF_ge r47)) o64) o74 (size_only O109) (ownF_ge r55)) o83) s107 (Nat.le_refl _) (oneF_ge hg6))
        rw [show check (l ++ [(⟨h, ((l.length : Nat) : Int), d, A15, q, c16, t⟩ : NM)]) = check (l ++ [⟨h, ((l.length : Nat) : Int), d, none, q, 0, t⟩]) from check_last] at *
        have hz0 := of_decide_eq_true (nt_f hc86)
        have r111 := (ow_only (ow_k (ow_only (ow_k (ow_only (ow_k (ow_k r40 o43) o48) o56 (ow_ne (ow_k (ow_k r40 o43) o48) r47 (by decide))) o64) o74 (ow_ne (ow_k (ow_only (ow_k (ow_k r40 o43) o48) o56 (ow_ne (ow_k (ow_k r40 o43) o48) r47 (by decide))) o64) r66 (by decide))) o83) s107 (fun k hk => ge_F (oneF_lt hl7) (Nat.le_refl _) k (ownF_ge (ow_k (ow_only (ow_k (ow_only (ow_k (ow_k r40 o43) o48) o56 (ow_ne (ow_k (ow_k r40 o43) o48) r47 (by decide))) o64) o74 (ow_ne (ow_k (ow_only (ow_k (ow_k r40 o43) o48) o56 (ow_ne (ow_k (ow_k r40 o43) o48) r47 (by decide))) o64) r66 (by decide))) o83) k hk)))
        exact ⟨noteV (⟨h, ((l.length : Nat) : Int), d, A15, q, c16, t⟩ : NM), by rw [hz0]; rfl, O110, .inr ⟨hz0, (⟨h, ((l.length : Nat) : Int), d, A15, q, c16, t⟩ : NM), rfl, rfl, rfl, rfl, rfl, rfl, ⟨hh, (by show I64 ((l.length : Nat) : Int); unfold I64; omega), hd, (SliceOf.pl (Row.own KRef r111 ok23)), ht⟩, (SliceOf.sup (Row.own KRef r111 ok23) (fun k hk => Nat.le_trans (size_only o4) hk))⟩⟩
    · -- 4 first
      obtain ⟨A112, w113, hw, hA, r114, o115⟩ := Row.made (w := w46) (KNote w31) (e := 54) ([(⟨h, ((l.length : Nat) : Int), d, A15, q, c16, t⟩ : NM)] : List NM) (by simp only [List.length_cons, List.length_nil]; unfold maxLen; omega)
      refine Pl.MD (r_bs (z := .agg #[.int .i64 (0), .int .i64 (0), .int .i64 (0), .slice none (0) 0, strV ([])]) (size := 5) (vs := [(0, .agg #[.int .i64 (h), .int .i64 (((l.length : Nat) : Int)), .int .i64 (d), .slice A15 ((q).length) c16, strV (t)])]) (cs := List.flatMap (KNote w31).cells [(⟨h, ((l.length : Nat) : Int), d, A15, q, c16, t⟩ : NM)]) Tryd.underlying51 Tryd.sizeOf54 Tryd.zeroValue54 rfl (Fr.evalps Hz rfl) (by kernel_rfl)) Hz rfl rfl ?_ ?_
      · rw [← hw]; exact ⟨fun h => absurd h (by decide), (Only.trans (Only.trans (Only.refl NoF w42) o48 (fun _ h => h.elim)) o115 (fun _ h => h.elim))⟩
      rw [← hw, ← hA]; clear Hz az; intro az Hz
      clear hw hA
      have ok116 : ∀ zq ∈ ([(⟨h, ((l.length : Nat) : Int), d, A15, q, c16, t⟩ : NM)] : List NM), (KNote w31).ok zq := by intro zq hx; simp only [List.mem_cons, List.not_mem_nil, or_false] at hx; rcases hx with rfl <;> first | exact okx41
      have r117 := (ow_k r47 o115)
      have O118 : Only NoF w31 w113 := (Only.trans' (Only.trans' o43 o48) o115)
      have h119 := (SliceOf.kp f35 O118 (fun _ _ h => h) (fun _ _ _ _ h => h))
      have hb127 : (List.length (([] : List NM)) + List.length (l)) * 64 ≤ 140737488355328 := by (simp only [List.length_append, List.length_cons, List.length_nil]; omega)
      have O128 : Only NoF w42 w113 := (Only.trans' o48 o115)
      obtain ⟨A120, c121, w122, hr123, r124, o125, al126⟩ := Row.app (P := Tryd.prog) (l := ([] : List NM)) (l2 := l) (KNote w31) elemNote r117 h119 hb127 (by unfold maxLen; omega) (size_only O128)
      simp only [List.nil_append, List.append_nil] at hr123 r124 al126
      refine Pl.MD (r_app hr123 Hz rfl rfl) Hz rfl rfl ?_ ?_
      · exact ⟨fun h => absurd h (by decide), (Only.trans (Only.trans (Only.trans (Only.refl NoF w42) o48 (fun _ h => h.elim)) o115 (fun _ h => h.elim)) o125 (fun k h => .inr (Nat.le_trans (Nat.le_refl _) ((ownF_ge r47) k h))))⟩
      clear Hz az; intro az Hz
      have ok129 : ∀ zq ∈ l, (KNote w31).ok zq := (Row.oks (KNote w31) h119)
      have h130 := Row.own (KNote w31) r124 ok129
      have h131 := Row.own (KNote w31) r114 ok116
      have h132 := (SliceOf.kp h131 o125 (ge_F (ownF_lt r47) (Nat.le_refl _)) (fun _ _ _ _ h => h))
      have h133 := SliceOf.pl h132
      have hb141 : (List.length (l) + List.length ([(⟨h, ((l.length : Nat) : Int), d, A15, q, c16, t⟩ : NM)])) * 64 ≤ 140737488355328 := by (simp only [List.length_append, List.length_cons, List.length_nil]; omega)
      have O142 : Only NoF w42 w122 := (o_sg O128 o125 (Nat.le_refl _) (ownF_ge r47))
      obtain ⟨A134, c135, w136, hr137, r138, o139, al140⟩ := Row.app (P := Tryd.prog) (l := l) (l2 := [(⟨h, ((l.length : Nat) : Int), d, A15, q, c16, t⟩ : NM)]) (KNote w31) elemNote r124 h133 hb141 (by unfold maxLen; omega) (size_only O142)
      refine Pl.MD (r_app hr137 Hz rfl rfl) Hz rfl rfl ?_ ?_
      · exact ⟨fun h => absurd h (by decide), (Only.trans (Only.trans (Only.trans (Only.trans (Only.refl NoF w42) o48 (fun _ h => h.elim)) o115 (fun _ h => h.elim)) o125 (fun k h => .inr (Nat.le_trans (Nat.le_refl _) ((ownF_ge r47) k h)))) o139 (fun k h => .inr (Nat.le_trans (Nat.le_refl _) ((ownF_ge r124) k h))))⟩
      clear Hz az; intro az Hz
      have ok143 : ∀ zq ∈ (l ++ [(⟨h, ((l.length : Nat) : Int), d, A15, q, c16, t⟩ : NM)]), (KNote w31).ok zq := (fun x hx => (List.mem_append.1 hx).elim (ok129 x) ((Row.oks (KNote w31) h133) x))
      have h144 := Row.own (KNote w31) r138 ok143
      have h145 := SliceOf.pl h144
      have O146 : Only NoF w31 w136 := (o_sg (o_sg O118 o125 (size_only o43) (ownF_ge r47)) o139 (size_only o43) (ownF_ge r124))
      refine Pl.MSV (v := .int .i64 ((check (l ++ [(⟨h, ((l.length : Nat) : Int), d, A15, q, c16, t⟩ : NM)])))) Hz rfl rfl rfl Tryd.call61 (rCheck_v (notes_up h145 O146)) rfl (fun w' o' => ⟨fun h => absurd h (by decide), (Only.trans (Only.trans (Only.trans (Only.trans (Only.trans (Only.refl NoF w42) o48 (fun _ h => h.elim)) o115 (fun _ h => h.elim)) o125 (fun k h => .inr (Nat.le_trans (Nat.le_refl _) ((ownF_ge r47) k h)))) o139 (fun k h => .inr (Nat.le_trans (Nat.le_refl _) ((ownF_ge r124) k h)))) o' (fun _ h => h.elim))⟩) fun w147 o148 => ?_
      clear Hz az; intro az Hz
      refine Pl.MSP (b := false) (by kernel_rfl) (fun W oW => r_as Hz rfl) Hz rfl rfl ?_
      clear Hz az; intro az Hz
      refine wpPl_nil ?_
      refine hK34 _ _ ?_
      refine wp_seq_k fun K149 hK149 => ?_
      refine wp_seq_k fun K150 hK150 => ?_
      -- ref.go:81
      refine wp_region_lit ?_
      refine L (r_mv Hz rfl) Hz rfl ?_
      clear Hz az; intro az Hz
      refine L (r_neI Hz rfl rfl) Hz rfl ?_
      clear Hz az; intro az Hz
      refine hK150 _ _ ?_
      refine br Hz rfl (fun hc151 => ?_) (fun hc151 => ?_)
      · -- if0
        have p152 := of_decide_eq_false (nt_t hc151)
        refine wp_seq_k fun K153 hK153 => ?_
        -- ref.go:82
        refine wp_region_lit ?_
        refine L (r_bd (v := .agg #[.int .i64 (0), .int .i64 (0), .int .i64 (0), .slice none (0) 0, strV ([])]) (build_Note0) Hz rfl) Hz rfl ?_
        clear Hz az; intro az Hz
        refine L (r_mv Hz rfl) Hz rfl ?_
        clear Hz az; intro az Hz
        have O155 : Only NoF w3 w17 := (o_sg o12 o20 (Nat.le_refl _) (ownF_ge r11))
        have ne154 : g2 ≠ g25 := (ne_of hl7 (Nat.le_trans (size_only O155) hg29))
        have O156 : Only NoF w3 w42 := (Only.trans' (o_sg (Only.trans' O155 o27) s32 (size_only O155) (oneF_ge hg29)) o43)
        have B157 := (Blk.k (Blk.only (Blk.only (Blk.k (Blk.k (Blk.k (Blk.st (Blk.k (Blk.only (Blk.k B5 o12) o20 (ow_nb r11 (Blk.k B5 o12) (by decide))) o27) s32 ne154) o43) o48) o115) o125 (fun h => absurd ((ownF_ge r47) _ h) (Nat.not_le.2 (Nat.lt_of_lt_of_le hl7 (size_only O156))))) o139 (fun h => absurd ((ownF_ge r124) _ h) (Nat.not_le.2 (Nat.lt_of_lt_of_le hl7 (size_only O156))))) o148)
        refine LSt (cs' := [.int .i64 (0), .int .i64 (0), .int .i64 (0), .slice none (0) 0, strV ([])]) Tryd.sizeOf54 Hz rfl rfl rfl rfl rfl ⟨rfl, rfl, rfl, rfl, rfl, trivial⟩ B157 rfl rfl fun w158 s159 B160 => ?_
        refine L (r_as Hz rfl) Hz rfl ?_
        clear Hz az; intro az Hz
        refine hK153 _ _ ?_
        refine wp_ret ?_
        show bodyPost _ _ _ .ret _ _
        refine ret_of (vs := [.agg #[.int .i64 (0), .int .i64 (0), .int .i64 (0), .slice none (0) 0, strV ([])], .int .i64 ((check (l ++ [(⟨h, ((l.length : Nat) : Int), d, A15, q, c16, t⟩ : NM)])))]) Hz Tryd.results54 ⟨⟨_, rfl, l_ca Tryd.isAgg54 Tryd.sizeOf54 (Blk.ca B160) rfl⟩, rfl, trivial⟩ ?_
        have O161 : Only NoF w w42 := (Only.trans' O37 o43)
        have O162 : Only NoF w w158 := (o_sg (Only.trans' (o_sg (o_sg (Only.trans' (Only.trans' (Only.trans' O37 o43) o48) o115) o125 (size_only O161) (ownF_ge r47)) o139 (size_only O161) (ownF_ge r124)) o148) s159 (Nat.le_refl _) (oneF_ge hg6))
        rw [show check (l ++ [(⟨h, ((l.length : Nat) : Int), d, A15, q, c16, t⟩ : NM)]) = check (l ++ [⟨h, ((l.length : Nat) : Int), d, none, q, 0, t⟩]) from check_last] at *
        exact ⟨_, rfl, O162, .inl ⟨of_decide_eq_false (nt_t hc151), rfl⟩⟩
      · -- else0
        have p163 := of_decide_eq_true (nt_f hc151)
        refine wp_skip ?_
        refine hK149 _ _ ?_
        refine wp_seq_k fun K164 hK164 => ?_
        -- ref.go:84
        refine wp_region_lit ?_
        have O165 := (Only.trans (Only.trans (Only.refl (fun _ => True) w26) s32 (fun _ _ => .inl trivial)) o43 (fun _ _ => .inl trivial))
        have B166 := (Blk.k (Blk.only (Blk.only (Blk.k (Blk.k B44 o48) o115) o125 (fun h => absurd ((ownF_ge r47) _ h) (Nat.not_le.2 (Nat.lt_of_lt_of_le hl30 (size_only O165))))) o139 (fun h => absurd ((ownF_ge r124) _ h) (Nat.not_le.2 (Nat.lt_of_lt_of_le hl30 (size_only O165))))) o148)
        refine L (r_ldA Tryd.isAgg54 Tryd.sizeOf54 Hz rfl (Blk.ca B166) rfl) Hz rfl ?_
        clear Hz az; intro az Hz
        have O168 : Only NoF w3 w17 := (o_sg o12 o20 (Nat.le_refl _) (ownF_ge r11))
        have ne167 : g2 ≠ g25 := (ne_of hl7 (Nat.le_trans (size_only O168) hg29))
        have O169 : Only NoF w3 w42 := (Only.trans' (o_sg (Only.trans' O168 o27) s32 (size_only O168) (oneF_ge hg29)) o43)
        have B170 := (Blk.k (Blk.only (Blk.only (Blk.k (Blk.k (Blk.k (Blk.st (Blk.k (Blk.only (Blk.k B5 o12) o20 (ow_nb r11 (Blk.k B5 o12) (by decide))) o27) s32 ne167) o43) o48) o115) o125 (fun h => absurd ((ownF_ge r47) _ h) (Nat.not_le.2 (Nat.lt_of_lt_of_le hl7 (size_only O169))))) o139 (fun h => absurd ((ownF_ge r124) _ h) (Nat.not_le.2 (Nat.lt_of_lt_of_le hl7 (size_only O169))))) o148)
        refine LSt (cs' := [.int .i64 (h), .int .i64 (((l.length : Nat) : Int)), .int .i64 (d), .slice A15 ((q).length) c16, strV (t)]) Tryd.sizeOf54 Hz rfl rfl rfl rfl rfl ⟨rfl, rfl, rfl, rfl, rfl, trivial⟩ B170 rfl rfl fun w171 s172 B173 => ?_
        refine L (r_as Hz rfl) Hz rfl ?_
        clear Hz az; intro az Hz
        refine hK164 _ _ ?_
        refine wp_ret ?_
        show bodyPost _ _ _ .ret _ _
        refine ret_of (vs := [.agg #[.int .i64 (h), .int .i64 (((l.length : Nat) : Int)), .int .i64 (d), .slice A15 ((q).length) c16, strV (t)], .int .i64 (0)]) Hz Tryd.results54 ⟨⟨_, rfl, l_ca Tryd.isAgg54 Tryd.sizeOf54 (Blk.ca B173) rfl⟩, rfl, trivial⟩ ?_
        have O174 : Only NoF w w42 := (Only.trans' O37 o43)
        have O175 : Only NoF w w171 := (o_sg (Only.trans' (o_sg (o_sg (Only.trans' (Only.trans' (Only.trans' O37 o43) o48) o115) o125 (size_only O174) (ownF_ge r47)) o139 (size_only O174) (ownF_ge r124)) o148) s172 (Nat.le_refl _) (oneF_ge hg6))
        rw [show check (l ++ [(⟨h, ((l.length : Nat) : Int), d, A15, q, c16, t⟩ : NM)]) = check (l ++ [⟨h, ((l.length : Nat) : Int), d, none, q, 0, t⟩]) from check_last] at *
        have hz0 := of_decide_eq_true (nt_f hc151)
        have r176 := (ow_only (ow_k (ow_only (ow_only (ow_k (ow_k (ow_k r40 o43) o48) o115) o125 (ow_ne (ow_k (ow_k (ow_k r40 o43) o48) o115) r117 (by decide))) o139 (ow_ne (ow_only (ow_k (ow_k (ow_k r40 o43) o48) o115) o125 (ow_ne (ow_k (ow_k (ow_k r40 o43) o48) o115) r117 (by decide))) r124 (by decide))) o148) s172 (fun k hk => ge_F (oneF_lt hl7) (Nat.le_refl _) k (ownF_ge (ow_k (ow_only (ow_only (ow_k (ow_k (ow_k r40 o43) o48) o115) o125 (ow_ne (ow_k (ow_k (ow_k r40 o43) o48) o115) r117 (by decide))) o139 (ow_ne (ow_only (ow_k (ow_k (ow_k r40 o43) o48) o115) o125 (ow_ne (ow_k (ow_k (ow_k r40 o43) o48) o115) r117 (by decide))) r124 (by decide))) o148) k hk)))
        exact ⟨noteV (⟨h, ((l.length : Nat) : Int), d, A15, q, c16, t⟩ : NM), by rw [hz0]; rfl, O175, .inr ⟨hz0, (⟨h, ((l.length : Nat) : Int), d, A15, q, c16, t⟩ : NM), rfl, rfl, rfl, rfl, rfl, rfl, ⟨hh, (by show I64 ((l.length : Nat) : Int); unfold I64; omega), hd, (SliceOf.pl (Row.own KRef r176 ok23)), ht⟩, (SliceOf.sup (Row.own KRef r176 ok23) (fun k hk => Nat.le_trans (size_only o4) hk))⟩⟩
  · -- 4 first
    obtain ⟨A177, w178, hw, hA, r179, o180⟩ := Row.made (w := w42) (KNote w31) (e := 54) ([(⟨h, ((l.length : Nat) : Int), d, A15, q, c16, t⟩ : NM)] : List NM) (by simp only [List.length_cons, List.length_nil]; unfold maxLen; omega)
    refine Pl.MD (r_bs (z := .agg #[.int .i64 (0), .int .i64 (0), .int .i64 (0), .slice none (0) 0, strV ([])]) (size := 5) (vs := [(0, .agg #[.int .i64 (h), .int .i64 (((l.length : Nat) : Int)), .int .i64 (d), .slice A15 ((q).length) c16, strV (t)])]) (cs := List.flatMap (KNote w31).cells [(⟨h, ((l.length : Nat) : Int), d, A15, q, c16, t⟩ : NM)]) Tryd.underlying51 Tryd.sizeOf54 Tryd.zeroValue54 rfl (Fr.evalps Hz rfl) (by kernel_rfl)) Hz rfl rfl ?_ ?_
    · rw [← hw]; exact ⟨fun _ => o180, (Only.trans (Only.refl NoF w42) o180 (fun _ h => h.elim))⟩
    rw [← hw, ← hA]; clear Hz az; intro az Hz
    clear hw hA
    have ok181 : ∀ zq ∈ ([(⟨h, ((l.length : Nat) : Int), d, A15, q, c16, t⟩ : NM)] : List NM), (KNote w31).ok zq := by intro zq hx; simp only [List.mem_cons, List.not_mem_nil, or_false] at hx; rcases hx with rfl <;> first | exact okx41
    obtain ⟨A182, w183, hw, hA, r184, o185⟩ := made0 (w := w178) (e := 54) (size := 5)
    refine Pl.MD (r_bs0 Tryd.underlying51 Tryd.sizeOf54) Hz rfl rfl ?_ ?_
    · rw [← hw]; exact ⟨fun h => absurd h (by decide), (Only.trans (Only.trans (Only.refl NoF w42) o180 (fun _ h => h.elim)) o185 (fun _ h => h.elim))⟩
    rw [← hw, ← hA]; clear Hz az; intro az Hz
    clear hw hA
    have O186 : Only NoF w31 w183 := (Only.trans' (Only.trans' o43 o180) o185)
    have h187 := (SliceOf.kp f35 O186 (fun _ _ h => h) (fun _ _ _ _ h => h))
    have hb195 : (List.length (([] : List NM)) + List.length (l)) * 64 ≤ 140737488355328 := by (simp only [List.length_append, List.length_cons, List.length_nil]; omega)
    obtain ⟨A188, c189, w190, hr191, r192, o193, al194⟩ := Row.app (P := Tryd.prog) (l := ([] : List NM)) (l2 := l) (KNote w31) elemNote r184 h187 hb195 (by unfold maxLen; omega) (size_only o185)
    simp only [List.nil_append, List.append_nil] at hr191 r192 al194
    refine Pl.MD (r_app hr191 Hz rfl rfl) Hz rfl rfl ?_ ?_
    · exact ⟨fun h => absurd h (by decide), (Only.trans (Only.trans (Only.trans (Only.refl NoF w42) o180 (fun _ h => h.elim)) o185 (fun _ h => h.elim)) o193 (fun k h => .inr (Nat.le_trans (size_only o180) ((ownF_ge r184) k h))))⟩
    clear Hz az; intro az Hz
    have ok196 : ∀ zq ∈ l, (KNote w31).ok zq := (Row.oks (KNote w31) h187)
    have h197 := Row.own (KNote w31) r192 ok196
    have h198 := Row.own (KNote w31) r179 ok181
    have O199 : Only NoF w178 w190 := (o_sg o185 o193 (Nat.le_refl _) (ownF_ge r184))
    have h200 := (SliceOf.kp h198 O199 (fun _ _ h => h) (fun _ _ _ _ h => h))
    have h201 := SliceOf.pl h200
    have hb209 : (List.length (l) + List.length ([(⟨h, ((l.length : Nat) : Int), d, A15, q, c16, t⟩ : NM)])) * 64 ≤ 140737488355328 := by (simp only [List.length_append, List.length_cons, List.length_nil]; omega)
    obtain ⟨A202, c203, w204, hr205, r206, o207, al208⟩ := Row.app (P := Tryd.prog) (l := l) (l2 := [(⟨h, ((l.length : Nat) : Int), d, A15, q, c16, t⟩ : NM)]) (KNote w31) elemNote r192 h201 hb209 (by unfold maxLen; omega) (size_only O199)
    refine Pl.MD (r_app hr205 Hz rfl rfl) Hz rfl rfl ?_ ?_
    · exact ⟨fun h => absurd h (by decide), (Only.trans (Only.trans (Only.trans (Only.trans (Only.refl NoF w42) o180 (fun _ h => h.elim)) o185 (fun _ h => h.elim)) o193 (fun k h => .inr (Nat.le_trans (size_only o180) ((ownF_ge r184) k h)))) o207 (fun k h => .inr (Nat.le_trans (size_only o180) ((ownF_ge r192) k h))))⟩
    clear Hz az; intro az Hz
    have ok210 : ∀ zq ∈ (l ++ [(⟨h, ((l.length : Nat) : Int), d, A15, q, c16, t⟩ : NM)]), (KNote w31).ok zq := (fun x hx => (List.mem_append.1 hx).elim (ok196 x) ((Row.oks (KNote w31) h201) x))
    have h211 := Row.own (KNote w31) r206 ok210
    have h212 := SliceOf.pl h211
    have O213 : Only NoF w31 w178 := (Only.trans' o43 o180)
    have O214 : Only NoF w31 w204 := (o_sg (o_sg O186 o193 (size_only O213) (ownF_ge r184)) o207 (size_only O213) (ownF_ge r192))
    refine Pl.MSV (v := .int .i64 ((check (l ++ [(⟨h, ((l.length : Nat) : Int), d, A15, q, c16, t⟩ : NM)])))) Hz rfl rfl rfl Tryd.call61 (rCheck_v (notes_up h212 O214)) rfl (fun w' o' => ⟨fun h => absurd h (by decide), (Only.trans (Only.trans (Only.trans (Only.trans (Only.trans (Only.refl NoF w42) o180 (fun _ h => h.elim)) o185 (fun _ h => h.elim)) o193 (fun k h => .inr (Nat.le_trans (size_only o180) ((ownF_ge r184) k h)))) o207 (fun k h => .inr (Nat.le_trans (size_only o180) ((ownF_ge r192) k h)))) o' (fun _ h => h.elim))⟩) fun w215 o216 => ?_
    clear Hz az; intro az Hz
    refine Pl.MSP (b := false) (by kernel_rfl) (fun W oW => r_as Hz rfl) Hz rfl rfl ?_
    clear Hz az; intro az Hz
    refine wpPl_nil ?_
    refine hK34 _ _ ?_
    refine wp_seq_k fun K217 hK217 => ?_
    refine wp_seq_k fun K218 hK218 => ?_
    -- ref.go:81
    refine wp_region_lit ?_
    refine L (r_mv Hz rfl) Hz rfl ?_
    clear Hz az; intro az Hz
    refine L (r_neI Hz rfl rfl) Hz rfl ?_
    clear Hz az; intro az Hz
    refine hK218 _ _ ?_
    refine br Hz rfl (fun hc219 => ?_) (fun hc219 => ?_)
    · -- if0
      have p220 := of_decide_eq_false (nt_t hc219)
      refine wp_seq_k fun K221 hK221 => ?_
      -- ref.go:82
      refine wp_region_lit ?_
      refine L (r_bd (v := .agg #[.int .i64 (0), .int .i64 (0), .int .i64 (0), .slice none (0) 0, strV ([])]) (build_Note0) Hz rfl) Hz rfl ?_
      clear Hz az; intro az Hz
      refine L (r_mv Hz rfl) Hz rfl ?_
      clear Hz az; intro az Hz
      have O223 : Only NoF w3 w17 := (o_sg o12 o20 (Nat.le_refl _) (ownF_ge r11))
      have ne222 : g2 ≠ g25 := (ne_of hl7 (Nat.le_trans (size_only O223) hg29))
      have O224 : Only NoF w3 w178 := (Only.trans' (Only.trans' (o_sg (Only.trans' O223 o27) s32 (size_only O223) (oneF_ge hg29)) o43) o180)
      have B225 := (Blk.k (Blk.only (Blk.only (Blk.k (Blk.k (Blk.k (Blk.st (Blk.k (Blk.only (Blk.k B5 o12) o20 (ow_nb r11 (Blk.k B5 o12) (by decide))) o27) s32 ne222) o43) o180) o185) o193 (fun h => absurd ((ownF_ge r184) _ h) (Nat.not_le.2 (Nat.lt_of_lt_of_le hl7 (size_only O224))))) o207 (fun h => absurd ((ownF_ge r192) _ h) (Nat.not_le.2 (Nat.lt_of_lt_of_le hl7 (size_only O224))))) o216)
      refine LSt (cs' := [.int .i64 (0), .int .i64 (0), .int .i64 (0), .slice none (0) 0, strV ([])]) Tryd.sizeOf54 Hz rfl rfl rfl rfl rfl ⟨rfl, rfl, rfl, rfl, rfl, trivial⟩ B225 rfl rfl fun w226 s227 B228 => ?_
      refine L (r_as Hz rfl) Hz rfl ?_
      clear Hz az; intro az Hz
      refine hK221 _ _ ?_
      refine wp_ret ?_
      show bodyPost _ _ _ .ret _ _
      refine ret_of (vs := [.agg #[.int .i64 (0), .int .i64 (0), .int .i64 (0), .slice none (0) 0, strV ([])], .int .i64 ((check (l ++ [(⟨h, ((l.length : Nat) : Int), d, A15, q, c16, t⟩ : NM)])))]) Hz Tryd.results54 ⟨⟨_, rfl, l_ca Tryd.isAgg54 Tryd.sizeOf54 (Blk.ca B228) rfl⟩, rfl, trivial⟩ ?_
      have O229 : Only NoF w w178 := (Only.trans' (Only.trans' O37 o43) o180)
      have O230 : Only NoF w w226 := (o_sg (Only.trans' (o_sg (o_sg (Only.trans' (Only.trans' (Only.trans' O37 o43) o180) o185) o193 (size_only O229) (ownF_ge r184)) o207 (size_only O229) (ownF_ge r192)) o216) s227 (Nat.le_refl _) (oneF_ge hg6))
      rw [show check (l ++ [(⟨h, ((l.length : Nat) : Int), d, A15, q, c16, t⟩ : NM)]) = check (l ++ [⟨h, ((l.length : Nat) : Int), d, none, q, 0, t⟩]) from check_last] at *
      exact ⟨_, rfl, O230, .inl ⟨of_decide_eq_false (nt_t hc219), rfl⟩⟩
    · -- else0
      have p231 := of_decide_eq_true (nt_f hc219)
      refine wp_skip ?_
      refine hK217 _ _ ?_
      refine wp_seq_k fun K232 hK232 => ?_
      -- ref.go:84
      refine wp_region_lit ?_
      have O233 := (Only.trans (Only.trans (Only.trans (Only.refl (fun _ => True) w26) s32 (fun _ _ => .inl trivial)) o43 (fun _ _ => .inl trivial)) o180 (fun _ _ => .inl trivial))
      have B234 := (Blk.k (Blk.only (Blk.only (Blk.k (Blk.k B44 o180) o185) o193 (fun h => absurd ((ownF_ge r184) _ h) (Nat.not_le.2 (Nat.lt_of_lt_of_le hl30 (size_only O233))))) o207 (fun h => absurd ((ownF_ge r192) _ h) (Nat.not_le.2 (Nat.lt_of_lt_of_le hl30 (size_only O233))))) o216)
      refine L (r_ldA Tryd.isAgg54 Tryd.sizeOf54 Hz rfl (Blk.ca B234) rfl) Hz rfl ?_
      clear Hz az; intro az Hz
      have O236 : Only NoF w3 w17 := (o_sg o12 o20 (Nat.le_refl _) (ownF_ge r11))
      have ne235 : g2 ≠ g25 := (ne_of hl7 (Nat.le_trans (size_only O236) hg29))
      have O237 : Only NoF w3 w178 := (Only.trans' (Only.trans' (o_sg (Only.trans' O236 o27) s32 (size_only O236) (oneF_ge hg29)) o43) o180)
      have B238 := (Blk.k (Blk.only (Blk.only (Blk.k (Blk.k (Blk.k (Blk.st (Blk.k (Blk.only (Blk.k B5 o12) o20 (ow_nb r11 (Blk.k B5 o12) (by decide))) o27) s32 ne235) o43) o180) o185) o193 (fun h => absurd ((ownF_ge r184) _ h) (Nat.not_le.2 (Nat.lt_of_lt_of_le hl7 (size_only O237))))) o207 (fun h => absurd ((ownF_ge r192) _ h) (Nat.not_le.2 (Nat.lt_of_lt_of_le hl7 (size_only O237))))) o216)
      refine LSt (cs' := [.int .i64 (h), .int .i64 (((l.length : Nat) : Int)), .int .i64 (d), .slice A15 ((q).length) c16, strV (t)]) Tryd.sizeOf54 Hz rfl rfl rfl rfl rfl ⟨rfl, rfl, rfl, rfl, rfl, trivial⟩ B238 rfl rfl fun w239 s240 B241 => ?_
      refine L (r_as Hz rfl) Hz rfl ?_
      clear Hz az; intro az Hz
      refine hK232 _ _ ?_
      refine wp_ret ?_
      show bodyPost _ _ _ .ret _ _
      refine ret_of (vs := [.agg #[.int .i64 (h), .int .i64 (((l.length : Nat) : Int)), .int .i64 (d), .slice A15 ((q).length) c16, strV (t)], .int .i64 (0)]) Hz Tryd.results54 ⟨⟨_, rfl, l_ca Tryd.isAgg54 Tryd.sizeOf54 (Blk.ca B241) rfl⟩, rfl, trivial⟩ ?_
      have O242 : Only NoF w w178 := (Only.trans' (Only.trans' O37 o43) o180)
      have O243 : Only NoF w w239 := (o_sg (Only.trans' (o_sg (o_sg (Only.trans' (Only.trans' (Only.trans' O37 o43) o180) o185) o193 (size_only O242) (ownF_ge r184)) o207 (size_only O242) (ownF_ge r192)) o216) s240 (Nat.le_refl _) (oneF_ge hg6))
      rw [show check (l ++ [(⟨h, ((l.length : Nat) : Int), d, A15, q, c16, t⟩ : NM)]) = check (l ++ [⟨h, ((l.length : Nat) : Int), d, none, q, 0, t⟩]) from check_last] at *
      have hz0 := of_decide_eq_true (nt_f hc219)
      have r244 := (ow_only (ow_k (ow_only (ow_only (ow_k (ow_k (ow_k r40 o43) o180) o185) o193 (ow_ne (ow_k (ow_k (ow_k r40 o43) o180) o185) r184 (by decide))) o207 (ow_ne (ow_only (ow_k (ow_k (ow_k r40 o43) o180) o185) o193 (ow_ne (ow_k (ow_k (ow_k r40 o43) o180) o185) r184 (by decide))) r192 (by decide))) o216) s240 (fun k hk => ge_F (oneF_lt hl7) (Nat.le_refl _) k (ownF_ge (ow_k (ow_only (ow_only (ow_k (ow_k (ow_k r40 o43) o180) o185) o193 (ow_ne (ow_k (ow_k (ow_k r40 o43) o180) o185) r184 (by decide))) o207 (ow_ne (ow_only (ow_k (ow_k (ow_k r40 o43) o180) o185) o193 (ow_ne (ow_k (ow_k (ow_k r40 o43) o180) o185) r184 (by decide))) r192 (by decide))) o216) k hk)))
      exact ⟨noteV (⟨h, ((l.length : Nat) : Int), d, A15, q, c16, t⟩ : NM), by rw [hz0]; rfl, O243, .inr ⟨hz0, (⟨h, ((l.length : Nat) : Int), d, A15, q, c16, t⟩ : NM), rfl, rfl, rfl, rfl, rfl, rfl, ⟨hh, (by show I64 ((l.length : Nat) : Int); unfold I64; omega), hd, (SliceOf.pl (Row.own KRef r244 ok23)), ht⟩, (SliceOf.sup (Row.own KRef r244 ok23) (fun k hk => Nat.le_trans (size_only o4) hk))⟩⟩

theorem rNext_v {w : World} {v v2 : Value} {l : List NM} (f1 : NotesV w w v l) {q : List RM} (f2 : RefsV w v2 q) {h d : Int} (hh : I64 h) (hd : I64 d) {t : Str} (ht : t.length ≤ maxLen) (hl : l.length ≤ 1000) (hq : q.length ≤ 1000) : Calls Tryd.prog 54 #[v, .int .i64 h, .int .i64 d, v2, strV t] w (NextTo l h d q t w) := by
  obtain ⟨A1, c1, rfl, _⟩ := SliceOf.shape f1
  obtain ⟨A2, c2, rfl, _⟩ := SliceOf.shape f2
  exact rNext_v_ f1 f2 hh hd ht hl hq

set_option maxRecDepth 20000 in
set_option maxHeartbeats 4000000 in
theorem rEncode_v {w : World} {m : NM} (hk1 : (KNote w).ok m) : Calls Tryd.prog 56 [.agg #[.int .i64 m.h, .int .i64 m.n, .int .i64 m.d, .slice m.A m.l.length m.c, strV m.s]].toArray w (Fix (.tuple #[strV (if right m = true then encN m else []), .bool (right m)]) w) := by
  obtain ⟨_, _, _, h1, _⟩ := id hk1
  refine calls_start Tryd.func56 rfl rfl ?_
  intro az Hz
  rw [Tryd.ntmps56] at Hz
  refine wp_seq_k fun K1 hK1 => ?_
  -- ref.go:93
  refine wp_region_lit ?_
  refine LBox Hz rfl rfl rfl ?_
  clear Hz az; intro g2 w3 hg6 hl7 o4 B5 az Hz
  refine L (r_as Hz rfl) Hz rfl ?_
  clear Hz az; intro az Hz
  refine L (r_as Hz rfl) Hz rfl ?_
  clear Hz az; intro az Hz
  refine hK1 _ _ ?_
  refine wp_seq_k fun K8 hK8 => ?_
  refine wp_seq_k fun K9 hK9 => ?_
  -- ref.go:94
  refine wp_region_lit ?_
  refine L (r_ldA Tryd.isAgg54 Tryd.sizeOf54 Hz rfl (Blk.ca B5) rfl) Hz rfl ?_
  clear Hz az; intro az Hz
  have h10 := (SliceOf.kp h1 o4 (fun _ _ h => h) (fun _ _ _ _ h => h))
  refine LCV (v := .bool (right m)) Hz rfl rfl Tryd.call63 (rRight_v h10) rfl fun w11 o12 => ?_
  clear Hz az; intro az Hz
  refine L (r_not Hz rfl) Hz rfl ?_
  clear Hz az; intro az Hz
  refine hK9 _ _ ?_
  refine br Hz rfl (fun hc13 => ?_) (fun hc13 => ?_)
  · -- if0
    have q14 : right m = false := (nt_t hc13)
    refine wp_seq_k fun K15 hK15 => ?_
    -- ref.go:95
    refine wp_region_lit ?_
    refine L (r_as Hz rfl) Hz rfl ?_
    clear Hz az; intro az Hz
    refine L (r_as Hz rfl) Hz rfl ?_
    clear Hz az; intro az Hz
    refine hK15 _ _ ?_
    refine wp_ret ?_
    show bodyPost _ _ _ .ret _ _
    refine ret_of (vs := [strV ([]), .bool (false)]) Hz Tryd.results56 ⟨rfl, rfl, trivial⟩ ?_
    have O16 : Only NoF w w11 := (Only.trans' o4 o12)
    rw [show right m = false from nt_t hc13]; exact ⟨rfl, O16⟩
  · -- else0
    have q17 : right m = true := (nt_f hc13)
    have hrt : right m = true := nt_f hc13
    obtain ⟨hrl, hrs⟩ := right_len hrt
    refine wp_skip ?_
    refine hK8 _ _ ?_
    refine wp_seq_k fun K18 hK18 => ?_
    -- ref.go:97
    refine wp_region_lit ?_
    refine L (r_as Hz rfl) Hz rfl ?_
    clear Hz az; intro az Hz
    refine hK18 _ _ ?_
    refine wp_seq_k fun K19 hK19 => ?_
    refine wp_seq_k fun K20 hK20 => ?_
    -- ref.go:98
    refine wp_region_lit ?_
    refine L (r_as Hz rfl) Hz rfl ?_
    clear Hz az; intro az Hz
    refine hK20 _ _ ?_
    refine wp_block ?_
    have B21 := (Blk.k B5 o12)
    refine wp_loop_m (fun mz az W => ∃ k : Nat, ∃ O : List Int, ∃ Ao : Option Addr, ∃ co : Nat, mz = m.l.length - k ∧ Fr 51 [(1, .pointer (some ((⟨g2, 0, none⟩ : Addr)))), (5, .int .i64 ((k : Int))), (4, .slice Ao (O.length) co)] az ∧ (k ≤ m.l.length) ∧ (O = flat2 (m.l.take k)) ∧ (∀ z ∈ O, KInt.ok z) ∧ Only NoF w W ∧ Blk W g2 54 [.int .i64 (m.h), .int .i64 (m.n), .int .i64 (m.d), .slice m.A (m.l.length) m.c, strV (m.s)].toArray ∧ W.ownsRow w.heap.size 3 1 (.slice Ao O.length co) O.length (List.flatMap KInt.cells O)) ?_ ?_
    · -- start
      have O22 : Only NoF w w11 := (Only.trans' o4 o12)
      exact ⟨_, 0, [], none, 0, rfl, Hz.cut ⟨rfl, rfl, rfl, trivial⟩, Nat.zero_le _, rfl, (fun z hz => by cases hz), O22, B21, (World.ownsRow_nil _ _ _ _)⟩
    clear Hz az
    rintro mz az w23 ⟨k, O, Ao, co, hm25, Hz, hk, hO, okO, o24, B26, rO⟩
    have hOl : O.length = 2 * k := by rw [hO, flat2_len, List.length_take]; omega
    refine wp_seq_k fun K27 hK27 => ?_
    refine wp_seq_k fun K28 hK28 => ?_
    -- ref.go:98
    refine wp_region_lit ?_
    refine L (r_mv Hz rfl) Hz rfl ?_
    clear Hz az; intro az Hz
    refine L (r_fa (m' := 3) Tryd.underlying54 rfl Tryd.sizeOf52 rfl Hz rfl rfl) Hz rfl ?_
    clear Hz az; intro az Hz
    refine L (r_ld Tryd.isAgg52 Hz rfl ((Blk.ca B26) 3 _ rfl)) Hz rfl ?_
    clear Hz az; intro az Hz
    refine L (r_lenL Tryd.underlying52 Hz rfl) Hz rfl ?_
    clear Hz az; intro az Hz
    refine L (r_ltI Hz rfl rfl) Hz rfl ?_
    clear Hz az; intro az Hz
    refine hK28 _ _ ?_
    refine br Hz rfl (fun hc29 => ?_) (fun hc29 => ?_)
    · -- if1
      have p30 := of_decide_eq_true hc29
      refine wp_skip ?_
      refine hK27 _ _ ?_
      refine wp_seq_k fun K31 hK31 => ?_
      refine wp_block ?_
      -- ref.go:99
      refine reg_p (ownF (.slice Ao (O.length) co)) 1 [7, 8, 15, 16] (.rd 0 (.rd 1 (.rd 2 (.rd 3 (.rd 4 (.rd 5 (.rd 6 (.rd 9 (.rd 10 (.rd 11 (.rd 12 (.rd 13 (.rd 14 (.fork 7 (.fork 8 (.ex 15 (.ex 16 (.rd 17 .nil))) 15 (.ex 8 (.ex 16 (.rd 17 .nil)))) 15 (.ex 7 (.ex 8 (.ex 16 (.rd 17 .nil)))))))))))))))))) (by kernel_rfl) (by kernel_rfl) (fun _ _ _ _ _ h => h) fun w32 o33 => ?_
      have B34 := (Blk.k B26 o33)
      refine Pl.MSP (b := false) (by kernel_rfl) (fun W oW => r_mv Hz rfl) Hz rfl rfl ?_
      clear Hz az; intro az Hz
      refine Pl.MSP (b := false) (by kernel_rfl) (fun W oW => r_fa (m' := 3) Tryd.underlying54 rfl Tryd.sizeOf52 rfl Hz rfl rfl) Hz rfl rfl ?_
      clear Hz az; intro az Hz
      have r35 := (ow_k rO o33)
      refine Pl.MSP (b := false) (by kernel_rfl) (fun W oW => r_ld Tryd.isAgg52 Hz rfl ((Blk.ca (Blk.only B34 oW (ow_nb r35 B34 (by decide)))) 3 _ rfl)) Hz rfl rfl ?_
      clear Hz az; intro az Hz
      refine Pl.MSP (b := false) (by kernel_rfl) (fun W oW => r_mv Hz rfl) Hz rfl rfl ?_
      clear Hz az; intro az Hz
      have hk36 : k < (m.l).length := by omega
      obtain ⟨m37, hm38, ok39, hA40⟩ := Row.el KRef h1 hk36
      have E41 : ∀ W, Only NoF w W → CA W (eA m.A 2 (k)) [.int .i64 (m37.h), .int .i64 (m37.n)] := Row.ce KRef h1 hm38 rfl
      refine Pl.MSP (b := false) (by kernel_rfl) (fun W oW => r_ia (k := k) (size := 2) Tryd.underlying52 Tryd.sizeOf71 Hz rfl rfl rfl hk36 hA40) Hz rfl rfl ?_
      clear Hz az; intro az Hz
      refine Pl.MSP (b := false) (by kernel_rfl) (fun W oW => r_fa (m' := 0) Tryd.underlying71 rfl Tryd.sizeOf3 rfl Hz rfl rfl) Hz rfl rfl ?_
      clear Hz az; intro az Hz
      have O42 : Only NoF w w32 := (Only.trans' o24 o33)
      refine Pl.MSP (b := false) (by kernel_rfl) (fun W oW => r_ld Tryd.isAgg3 Hz rfl ((E41 _ (Only.trans O42 oW (fun k h => .inr ((fun k h => Nat.le_trans (Nat.le_refl _) ((ownF_ge rO) k h)) k h)))) 0 _ rfl)) Hz rfl rfl ?_
      clear Hz az; intro az Hz
      refine Pl.MSP (b := false) (by kernel_rfl) (fun W oW => r_fa (m' := 3) Tryd.underlying54 rfl Tryd.sizeOf52 rfl Hz rfl rfl) Hz rfl rfl ?_
      clear Hz az; intro az Hz
      refine Pl.MSP (b := false) (by kernel_rfl) (fun W oW => r_ld Tryd.isAgg52 Hz rfl ((Blk.ca (Blk.only B34 oW (ow_nb r35 B34 (by decide)))) 3 _ rfl)) Hz rfl rfl ?_
      clear Hz az; intro az Hz
      refine Pl.MSP (b := false) (by kernel_rfl) (fun W oW => r_mv Hz rfl) Hz rfl rfl ?_
      clear Hz az; intro az Hz
      refine Pl.MSP (b := false) (by kernel_rfl) (fun W oW => r_ia (k := k) (size := 2) Tryd.underlying52 Tryd.sizeOf71 Hz rfl rfl rfl hk36 hA40) Hz rfl rfl ?_
      clear Hz az; intro az Hz
      refine Pl.MSP (b := false) (by kernel_rfl) (fun W oW => r_fa (m' := 1) Tryd.underlying71 rfl Tryd.sizeOf3 rfl Hz rfl rfl) Hz rfl rfl ?_
      clear Hz az; intro az Hz
      refine Pl.MSP (b := false) (by kernel_rfl) (fun W oW => r_ld Tryd.isAgg3 Hz rfl ((E41 _ (Only.trans O42 oW (fun k h => .inr ((fun k h => Nat.le_trans (Nat.le_refl _) ((ownF_ge rO) k h)) k h)))) 1 _ rfl)) Hz rfl rfl ?_
      clear Hz az; intro az Hz
      refine wpPl_fork ?_ ?_
      · -- 7 first
        obtain ⟨A43, w44, hw, hA, r45, o46⟩ := Row.made (w := w32) KInt (e := 3) ([m37.h] : List Int) (by simp only [List.length_cons, List.length_nil]; unfold maxLen; omega)
        refine Pl.MD (r_bs (z := .int .i64 (0)) (size := 1) (vs := [(0, .int .i64 (m37.h))]) (cs := List.flatMap KInt.cells [m37.h]) Tryd.underlying22 Tryd.sizeOf3 Tryd.zeroValue3 rfl (Fr.evalps Hz rfl) (by kernel_rfl)) Hz rfl rfl ?_ ?_
        · rw [← hw]; exact ⟨fun _ => o46, (Only.trans (Only.refl (ownF (.slice Ao (O.length) co)) w32) o46 (fun _ h => h.elim))⟩
        rw [← hw, ← hA]; clear Hz az; intro az Hz
        clear hw hA
        have ok47 : ∀ zq ∈ ([m37.h] : List Int), KInt.ok zq := by intro zq hx; simp only [List.mem_cons, List.not_mem_nil, or_false] at hx; rcases hx with rfl <;> first | exact ok39.1
        refine wpPl_fork ?_ ?_
        · -- 8 first
          have r48 := (ow_k r35 o46)
          have h49 := Row.own KInt r45 ok47
          have h50 := SliceOf.pl h49
          have hb58 : (List.length (O) + List.length ([m37.h])) * 8 ≤ 140737488355328 := by (simp only [List.length_append, List.length_cons, List.length_nil]; omega)
          have O59 : Only NoF w w44 := (Only.trans' O42 o46)
          obtain ⟨A51, c52, w53, hr54, r55, o56, al57⟩ := Row.app (P := Tryd.prog) (l := O) (l2 := [m37.h]) KInt elemInt r48 h50 hb58 (by unfold maxLen; omega) (size_only O59)
          refine Pl.MD (r_app hr54 Hz rfl rfl) Hz rfl rfl ?_ ?_
          · exact ⟨fun h => absurd h (by decide), (Only.trans (Only.trans (Only.refl (ownF (.slice Ao (O.length) co)) w32) o46 (fun _ h => h.elim)) o56 (fun _ h => .inl h))⟩
          clear Hz az; intro az Hz
          have ok60 : ∀ zq ∈ (O ++ [m37.h]), KInt.ok zq := (fun x hx => (List.mem_append.1 hx).elim (okO x) ((Row.oks KInt h50) x))
          have h61 := Row.own KInt r55 ok60
          obtain ⟨A62, w63, hw, hA, r64, o65⟩ := Row.made (w := w53) KInt (e := 3) ([m37.n] : List Int) (by simp only [List.length_cons, List.length_nil]; unfold maxLen; omega)
          refine Pl.MD (r_bs (z := .int .i64 (0)) (size := 1) (vs := [(0, .int .i64 (m37.n))]) (cs := List.flatMap KInt.cells [m37.n]) Tryd.underlying22 Tryd.sizeOf3 Tryd.zeroValue3 rfl (Fr.evalps Hz rfl) (by kernel_rfl)) Hz rfl rfl ?_ ?_
          · rw [← hw]; exact ⟨fun h => absurd h (by decide), (Only.trans (Only.trans (Only.trans (Only.refl (ownF (.slice Ao (O.length) co)) w32) o46 (fun _ h => h.elim)) o56 (fun _ h => .inl h)) o65 (fun _ h => h.elim))⟩
          rw [← hw, ← hA]; clear Hz az; intro az Hz
          clear hw hA
          have ok66 : ∀ zq ∈ ([m37.n] : List Int), KInt.ok zq := by intro zq hx; simp only [List.mem_cons, List.not_mem_nil, or_false] at hx; rcases hx with rfl <;> first | exact ok39.2
          have r67 := (ow_k r55 o65)
          have h68 := Row.own KInt r64 ok66
          have h69 := SliceOf.pl h68
          have hb77 : (List.length ((O ++ [m37.h])) + List.length ([m37.n])) * 8 ≤ 140737488355328 := by (simp only [List.length_append, List.length_cons, List.length_nil]; omega)
          have O78 : Only NoF w w63 := (Only.trans' (o_sg O59 o56 (Nat.le_refl _) (ownF_ge rO)) o65)
          obtain ⟨A70, c71, w72, hr73, r74, o75, al76⟩ := Row.app (P := Tryd.prog) (l := (O ++ [m37.h])) (l2 := [m37.n]) KInt elemInt r67 h69 hb77 (by unfold maxLen; omega) (size_only O78)
          refine Pl.MD (r_app hr73 Hz rfl rfl) Hz rfl rfl ?_ ?_
          · exact ⟨fun h => absurd h (by decide), (Only.trans (Only.trans (Only.trans (Only.trans (Only.refl (ownF (.slice Ao (O.length) co)) w32) o46 (fun _ h => h.elim)) o56 (fun _ h => .inl h)) o65 (fun _ h => h.elim)) o75 (fun k h => (app_F al57 h).elim (fun h => .inl h) (fun h => .inr (by rw [h]; exact (size_only o46)))))⟩
          clear Hz az; intro az Hz
          have ok79 : ∀ zq ∈ ((O ++ [m37.h]) ++ [m37.n]), KInt.ok zq := (fun x hx => (List.mem_append.1 hx).elim (ok60 x) ((Row.oks KInt h69) x))
          have h80 := Row.own KInt r74 ok79
          refine Pl.MSP (b := false) (by kernel_rfl) (fun W oW => r_as Hz rfl) Hz rfl rfl ?_
          clear Hz az; intro az Hz
          refine wpPl_nil ?_
          refine hK31 _ _ ?_
          -- ref.go:98
          refine wp_region_lit ?_
          refine L (r_mv Hz rfl) Hz rfl ?_
          clear Hz az; intro az Hz
          have i81 : I64 (((k : Int) + 1)) := by unfold I64; omega
          refine L (r_addI (r := ((k : Int) + 1)) Hz rfl rfl rfl i81) Hz rfl ?_
          clear Hz az; intro az Hz
          refine L (r_as Hz rfl) Hz rfl ?_
          clear Hz az; intro az Hz
          have O82 : Only NoF w w72 := (o_sg O78 o75 (Nat.le_refl _) (ownF_ge r55))
          have B83 := (Blk.only (Blk.k (Blk.only (Blk.k B34 o46) o56 (ow_nb r48 (Blk.k B34 o46) (by decide))) o65) o75 (ow_nb r67 (Blk.k (Blk.only (Blk.k B34 o46) o56 (ow_nb r48 (Blk.k B34 o46) (by decide))) o65) (by decide)))
          exact ⟨_, (by omega), k + 1, _, A70, c71, rfl, Hz.cut ⟨rfl, rfl, rfl, trivial⟩, (by omega), (by rw [hO, take_succ_get hm38, flat2, flat2, List.flatMap_append, List.append_assoc]; rfl), ok79, O82, B83, (ow_low r74 (Nat.le_refl _))⟩
        · -- 15 first
          obtain ⟨A84, w85, hw, hA, r86, o87⟩ := Row.made (w := w44) KInt (e := 3) ([m37.n] : List Int) (by simp only [List.length_cons, List.length_nil]; unfold maxLen; omega)
          refine Pl.MD (r_bs (z := .int .i64 (0)) (size := 1) (vs := [(0, .int .i64 (m37.n))]) (cs := List.flatMap KInt.cells [m37.n]) Tryd.underlying22 Tryd.sizeOf3 Tryd.zeroValue3 rfl (Fr.evalps Hz rfl) (by kernel_rfl)) Hz rfl rfl ?_ ?_
          · rw [← hw]; exact ⟨fun h => absurd h (by decide), (Only.trans (Only.trans (Only.refl (ownF (.slice Ao (O.length) co)) w32) o46 (fun _ h => h.elim)) o87 (fun _ h => h.elim))⟩
          rw [← hw, ← hA]; clear Hz az; intro az Hz
          clear hw hA
          have ok88 : ∀ zq ∈ ([m37.n] : List Int), KInt.ok zq := by intro zq hx; simp only [List.mem_cons, List.not_mem_nil, or_false] at hx; rcases hx with rfl <;> first | exact ok39.2
          have r89 := (ow_k (ow_k r35 o46) o87)
          have h90 := Row.own KInt r45 ok47
          have h91 := (SliceOf.kp h90 o87 (fun _ _ h => h) (fun _ _ _ _ h => h))
          have h92 := SliceOf.pl h91
          have hb100 : (List.length (O) + List.length ([m37.h])) * 8 ≤ 140737488355328 := by (simp only [List.length_append, List.length_cons, List.length_nil]; omega)
          have O101 : Only NoF w w85 := (Only.trans' (Only.trans' O42 o46) o87)
          obtain ⟨A93, c94, w95, hr96, r97, o98, al99⟩ := Row.app (P := Tryd.prog) (l := O) (l2 := [m37.h]) KInt elemInt r89 h92 hb100 (by unfold maxLen; omega) (size_only O101)
          refine Pl.MD (r_app hr96 Hz rfl rfl) Hz rfl rfl ?_ ?_
          · exact ⟨fun h => absurd h (by decide), (Only.trans (Only.trans (Only.trans (Only.refl (ownF (.slice Ao (O.length) co)) w32) o46 (fun _ h => h.elim)) o87 (fun _ h => h.elim)) o98 (fun _ h => .inl h))⟩
          clear Hz az; intro az Hz
          have ok102 : ∀ zq ∈ (O ++ [m37.h]), KInt.ok zq := (fun x hx => (List.mem_append.1 hx).elim (okO x) ((Row.oks KInt h92) x))
          have h103 := Row.own KInt r97 ok102
          have h104 := Row.own KInt r86 ok88
          have O105 : Only NoF w23 w44 := (Only.trans' o33 o46)
          have h106 := (SliceOf.kp h104 o98 (ge_F (ownF_lt rO) (size_only O105)) (fun _ _ _ _ h => h))
          have h107 := SliceOf.pl h106
          have hb115 : (List.length ((O ++ [m37.h])) + List.length ([m37.n])) * 8 ≤ 140737488355328 := by (simp only [List.length_append, List.length_cons, List.length_nil]; omega)
          have O116 : Only NoF w w95 := (o_sg O101 o98 (Nat.le_refl _) (ownF_ge rO))
          obtain ⟨A108, c109, w110, hr111, r112, o113, al114⟩ := Row.app (P := Tryd.prog) (l := (O ++ [m37.h])) (l2 := [m37.n]) KInt elemInt r97 h107 hb115 (by unfold maxLen; omega) (size_only O116)
          have O117 : Only NoF w32 w85 := (Only.trans' o46 o87)
          refine Pl.MD (r_app hr111 Hz rfl rfl) Hz rfl rfl ?_ ?_
          · exact ⟨fun h => absurd h (by decide), (Only.trans (Only.trans (Only.trans (Only.trans (Only.refl (ownF (.slice Ao (O.length) co)) w32) o46 (fun _ h => h.elim)) o87 (fun _ h => h.elim)) o98 (fun _ h => .inl h)) o113 (fun k h => (app_F al99 h).elim (fun h => .inl h) (fun h => .inr (by rw [h]; exact (size_only O117)))))⟩
          clear Hz az; intro az Hz
          have ok118 : ∀ zq ∈ ((O ++ [m37.h]) ++ [m37.n]), KInt.ok zq := (fun x hx => (List.mem_append.1 hx).elim (ok102 x) ((Row.oks KInt h107) x))
          have h119 := Row.own KInt r112 ok118
          refine Pl.MSP (b := false) (by kernel_rfl) (fun W oW => r_as Hz rfl) Hz rfl rfl ?_
          clear Hz az; intro az Hz
          refine wpPl_nil ?_
          refine hK31 _ _ ?_
          -- ref.go:98
          refine wp_region_lit ?_
          refine L (r_mv Hz rfl) Hz rfl ?_
          clear Hz az; intro az Hz
          have i120 : I64 (((k : Int) + 1)) := by unfold I64; omega
          refine L (r_addI (r := ((k : Int) + 1)) Hz rfl rfl rfl i120) Hz rfl ?_
          clear Hz az; intro az Hz
          refine L (r_as Hz rfl) Hz rfl ?_
          clear Hz az; intro az Hz
          have O121 : Only NoF w w110 := (o_sg O116 o113 (Nat.le_refl _) (ownF_ge r97))
          have B122 := (Blk.only (Blk.only (Blk.k (Blk.k B34 o46) o87) o98 (ow_nb r89 (Blk.k (Blk.k B34 o46) o87) (by decide))) o113 (ow_nb r97 (Blk.only (Blk.k (Blk.k B34 o46) o87) o98 (ow_nb r89 (Blk.k (Blk.k B34 o46) o87) (by decide))) (by decide)))
          exact ⟨_, (by omega), k + 1, _, A108, c109, rfl, Hz.cut ⟨rfl, rfl, rfl, trivial⟩, (by omega), (by rw [hO, take_succ_get hm38, flat2, flat2, List.flatMap_append, List.append_assoc]; rfl), ok118, O121, B122, (ow_low r112 (Nat.le_refl _))⟩
      · -- 15 first
        obtain ⟨A123, w124, hw, hA, r125, o126⟩ := Row.made (w := w32) KInt (e := 3) ([m37.n] : List Int) (by simp only [List.length_cons, List.length_nil]; unfold maxLen; omega)
        refine Pl.MD (r_bs (z := .int .i64 (0)) (size := 1) (vs := [(0, .int .i64 (m37.n))]) (cs := List.flatMap KInt.cells [m37.n]) Tryd.underlying22 Tryd.sizeOf3 Tryd.zeroValue3 rfl (Fr.evalps Hz rfl) (by kernel_rfl)) Hz rfl rfl ?_ ?_
        · rw [← hw]; exact ⟨fun _ => o126, (Only.trans (Only.refl (ownF (.slice Ao (O.length) co)) w32) o126 (fun _ h => h.elim))⟩
        rw [← hw, ← hA]; clear Hz az; intro az Hz
        clear hw hA
        have ok127 : ∀ zq ∈ ([m37.n] : List Int), KInt.ok zq := by intro zq hx; simp only [List.mem_cons, List.not_mem_nil, or_false] at hx; rcases hx with rfl <;> first | exact ok39.2
        obtain ⟨A128, w129, hw, hA, r130, o131⟩ := Row.made (w := w124) KInt (e := 3) ([m37.h] : List Int) (by simp only [List.length_cons, List.length_nil]; unfold maxLen; omega)
        refine Pl.MD (r_bs (z := .int .i64 (0)) (size := 1) (vs := [(0, .int .i64 (m37.h))]) (cs := List.flatMap KInt.cells [m37.h]) Tryd.underlying22 Tryd.sizeOf3 Tryd.zeroValue3 rfl (Fr.evalps Hz rfl) (by kernel_rfl)) Hz rfl rfl ?_ ?_
        · rw [← hw]; exact ⟨fun h => absurd h (by decide), (Only.trans (Only.trans (Only.refl (ownF (.slice Ao (O.length) co)) w32) o126 (fun _ h => h.elim)) o131 (fun _ h => h.elim))⟩
        rw [← hw, ← hA]; clear Hz az; intro az Hz
        clear hw hA
        have ok132 : ∀ zq ∈ ([m37.h] : List Int), KInt.ok zq := by intro zq hx; simp only [List.mem_cons, List.not_mem_nil, or_false] at hx; rcases hx with rfl <;> first | exact ok39.1
        have r133 := (ow_k (ow_k r35 o126) o131)
        have h134 := Row.own KInt r130 ok132
        have h135 := SliceOf.pl h134
        have hb143 : (List.length (O) + List.length ([m37.h])) * 8 ≤ 140737488355328 := by (simp only [List.length_append, List.length_cons, List.length_nil]; omega)
        have O144 : Only NoF w w129 := (Only.trans' (Only.trans' O42 o126) o131)
        obtain ⟨A136, c137, w138, hr139, r140, o141, al142⟩ := Row.app (P := Tryd.prog) (l := O) (l2 := [m37.h]) KInt elemInt r133 h135 hb143 (by unfold maxLen; omega) (size_only O144)
        refine Pl.MD (r_app hr139 Hz rfl rfl) Hz rfl rfl ?_ ?_
        · exact ⟨fun h => absurd h (by decide), (Only.trans (Only.trans (Only.trans (Only.refl (ownF (.slice Ao (O.length) co)) w32) o126 (fun _ h => h.elim)) o131 (fun _ h => h.elim)) o141 (fun _ h => .inl h))⟩
        clear Hz az; intro az Hz
        have ok145 : ∀ zq ∈ (O ++ [m37.h]), KInt.ok zq := (fun x hx => (List.mem_append.1 hx).elim (okO x) ((Row.oks KInt h135) x))
        have h146 := Row.own KInt r140 ok145
        have h147 := Row.own KInt r125 ok127
        have h148 := (SliceOf.kp (SliceOf.kp h147 o131 (fun _ _ h => h) (fun _ _ _ _ h => h)) o141 (ge_F (ownF_lt rO) (size_only o33)) (fun _ _ _ _ h => h))
        have h149 := SliceOf.pl h148
        have hb157 : (List.length ((O ++ [m37.h])) + List.length ([m37.n])) * 8 ≤ 140737488355328 := by (simp only [List.length_append, List.length_cons, List.length_nil]; omega)
        have O158 : Only NoF w w138 := (o_sg O144 o141 (Nat.le_refl _) (ownF_ge rO))
        obtain ⟨A150, c151, w152, hr153, r154, o155, al156⟩ := Row.app (P := Tryd.prog) (l := (O ++ [m37.h])) (l2 := [m37.n]) KInt elemInt r140 h149 hb157 (by unfold maxLen; omega) (size_only O158)
        have O159 : Only NoF w32 w129 := (Only.trans' o126 o131)
        refine Pl.MD (r_app hr153 Hz rfl rfl) Hz rfl rfl ?_ ?_
        · exact ⟨fun h => absurd h (by decide), (Only.trans (Only.trans (Only.trans (Only.trans (Only.refl (ownF (.slice Ao (O.length) co)) w32) o126 (fun _ h => h.elim)) o131 (fun _ h => h.elim)) o141 (fun _ h => .inl h)) o155 (fun k h => (app_F al142 h).elim (fun h => .inl h) (fun h => .inr (by rw [h]; exact (size_only O159)))))⟩
        clear Hz az; intro az Hz
        have ok160 : ∀ zq ∈ ((O ++ [m37.h]) ++ [m37.n]), KInt.ok zq := (fun x hx => (List.mem_append.1 hx).elim (ok145 x) ((Row.oks KInt h149) x))
        have h161 := Row.own KInt r154 ok160
        refine Pl.MSP (b := false) (by kernel_rfl) (fun W oW => r_as Hz rfl) Hz rfl rfl ?_
        clear Hz az; intro az Hz
        refine wpPl_nil ?_
        refine hK31 _ _ ?_
        -- ref.go:98
        refine wp_region_lit ?_
        refine L (r_mv Hz rfl) Hz rfl ?_
        clear Hz az; intro az Hz
        have i162 : I64 (((k : Int) + 1)) := by unfold I64; omega
        refine L (r_addI (r := ((k : Int) + 1)) Hz rfl rfl rfl i162) Hz rfl ?_
        clear Hz az; intro az Hz
        refine L (r_as Hz rfl) Hz rfl ?_
        clear Hz az; intro az Hz
        have O163 : Only NoF w w152 := (o_sg O158 o155 (Nat.le_refl _) (ownF_ge r140))
        have B164 := (Blk.only (Blk.only (Blk.k (Blk.k B34 o126) o131) o141 (ow_nb r133 (Blk.k (Blk.k B34 o126) o131) (by decide))) o155 (ow_nb r140 (Blk.only (Blk.k (Blk.k B34 o126) o131) o141 (ow_nb r133 (Blk.k (Blk.k B34 o126) o131) (by decide))) (by decide)))
        exact ⟨_, (by omega), k + 1, _, A150, c151, rfl, Hz.cut ⟨rfl, rfl, rfl, trivial⟩, (by omega), (by rw [hO, take_succ_get hm38, flat2, flat2, List.flatMap_append, List.append_assoc]; rfl), ok160, O163, B164, (ow_low r154 (Nat.le_refl _))⟩
    · -- else1
      have p165 := of_decide_eq_false hc29
      refine wp_exit ?_
      refine th_exit ?_
      refine th_exit ?_
      refine ib_hit ?_
      refine hK19 _ _ ?_
      refine wp_seq_k fun K166 hK166 => ?_
      -- ref.go:101
      refine reg_p NoF 5 [2, 5, 9, 12, 16] (.rd 0 (.rd 1 (.rd 3 (.rd 4 (.rd 7 (.rd 8 (.rd 11 (.rd 14 (.rd 15 (.ex 2 (.ex 5 (.rd 6 (.ex 9 (.rd 10 (.ex 12 (.rd 13 (.ex 16 (.rd 17 (.rd 18 (.rd 19 .nil)))))))))))))))))))) (by kernel_rfl) (by kernel_rfl) (fun _ _ _ _ _ h => h) fun w167 o168 => ?_
      have B169 := (Blk.k B26 o168)
      refine Pl.MSP (b := true) (by kernel_rfl) (fun W oW => r_fa (m' := 0) Tryd.underlying54 rfl Tryd.sizeOf3 rfl Hz rfl rfl) Hz rfl rfl ?_
      clear Hz az; intro az Hz
      refine Pl.MSP (b := true) (by kernel_rfl) (fun W oW => r_ld Tryd.isAgg3 Hz rfl ((Blk.ca (Blk.k B169 oW)) 0 _ rfl)) Hz rfl rfl ?_
      clear Hz az; intro az Hz
      refine Pl.MSP (b := true) (by kernel_rfl) (fun W oW => r_fa (m' := 1) Tryd.underlying54 rfl Tryd.sizeOf3 rfl Hz rfl rfl) Hz rfl rfl ?_
      clear Hz az; intro az Hz
      refine Pl.MSP (b := true) (by kernel_rfl) (fun W oW => r_ld Tryd.isAgg3 Hz rfl ((Blk.ca (Blk.k B169 oW)) 1 _ rfl)) Hz rfl rfl ?_
      clear Hz az; intro az Hz
      refine Pl.MSP (b := true) (by kernel_rfl) (fun W oW => r_fa (m' := 2) Tryd.underlying54 rfl Tryd.sizeOf3 rfl Hz rfl rfl) Hz rfl rfl ?_
      clear Hz az; intro az Hz
      refine Pl.MSP (b := true) (by kernel_rfl) (fun W oW => r_ld Tryd.isAgg3 Hz rfl ((Blk.ca (Blk.k B169 oW)) 2 _ rfl)) Hz rfl rfl ?_
      clear Hz az; intro az Hz
      refine Pl.MSP (b := true) (by kernel_rfl) (fun W oW => r_mv Hz rfl) Hz rfl rfl ?_
      clear Hz az; intro az Hz
      refine Pl.MSP (b := true) (by kernel_rfl) (fun W oW => r_fa (m' := 4) Tryd.underlying54 rfl Tryd.sizeOf9 rfl Hz rfl rfl) Hz rfl rfl ?_
      clear Hz az; intro az Hz
      refine Pl.MSP (b := true) (by kernel_rfl) (fun W oW => r_ld Tryd.isAgg9 Hz rfl ((Blk.ca (Blk.k B169 oW)) 4 _ rfl)) Hz rfl rfl ?_
      clear Hz az; intro az Hz
      refine Pl.MSV (v := strV (Wr.numE m.h)) Hz rfl rfl rfl Tryd.call18 (vNum_v _ m.h (wr_ok hk1.1)) rfl (fun w' o' => ⟨fun _ => o', (Only.trans (Only.refl NoF w167) o' (fun _ h => h.elim))⟩) fun w170 o171 => ?_
      clear Hz az; intro az Hz
      refine Pl.MSV (v := strV (Wr.numE m.n)) Hz rfl rfl rfl Tryd.call18 (vNum_v _ m.n (wr_ok hk1.2.1)) rfl (fun w' o' => ⟨fun _ => (Only.trans' o171 o'), (Only.trans (Only.trans (Only.refl NoF w167) o171 (fun _ h => h.elim)) o' (fun _ h => h.elim))⟩) fun w172 o173 => ?_
      clear Hz az; intro az Hz
      refine Pl.MSP (b := true) (by kernel_rfl) (fun W oW => r_addS Hz rfl rfl (by have e1 := numE_len (wr_ok hk1.1); have e2 := numE_len (wr_ok hk1.2.1); have e3 := numE_len (wr_ok hk1.2.2.1); have e4 := numsE_len (l := O) okO (by omega); have e5 := text_size2 (s := m.s) (by omega); (try simp only [List.length_append]); omega)) Hz rfl rfl ?_
      clear Hz az; intro az Hz
      refine Pl.MSV (v := strV (Wr.numE m.d)) Hz rfl rfl rfl Tryd.call18 (vNum_v _ m.d (wr_ok hk1.2.2.1)) rfl (fun w' o' => ⟨fun _ => (Only.trans' (Only.trans' o171 o173) o'), (Only.trans (Only.trans (Only.trans (Only.refl NoF w167) o171 (fun _ h => h.elim)) o173 (fun _ h => h.elim)) o' (fun _ h => h.elim))⟩) fun w174 o175 => ?_
      clear Hz az; intro az Hz
      refine Pl.MSP (b := true) (by kernel_rfl) (fun W oW => r_addS Hz rfl rfl (by have e1 := numE_len (wr_ok hk1.1); have e2 := numE_len (wr_ok hk1.2.1); have e3 := numE_len (wr_ok hk1.2.2.1); have e4 := numsE_len (l := O) okO (by omega); have e5 := text_size2 (s := m.s) (by omega); (try simp only [List.length_append]); omega)) Hz rfl rfl ?_
      clear Hz az; intro az Hz
      have h176 := Row.own KInt rO okO
      have O177 : Only NoF w23 w174 := (Only.trans' (Only.trans' (Only.trans' o168 o171) o173) o175)
      have h178 := (SliceOf.kp h176 O177 (fun _ _ h => h) (fun _ _ _ _ h => h))
      have h179 := SliceOf.pl h178
      refine Pl.MSV (v := strV (Wr.numsE O)) Hz rfl rfl rfl Tryd.call24 (vNums_v h179 (by omega) (ints_bytes (l := O) (Row.oks KInt h179) (by omega))) rfl (fun w' o' => ⟨fun _ => (Only.trans' (Only.trans' (Only.trans' o171 o173) o175) o'), (Only.trans (Only.trans (Only.trans (Only.trans (Only.refl NoF w167) o171 (fun _ h => h.elim)) o173 (fun _ h => h.elim)) o175 (fun _ h => h.elim)) o' (fun _ h => h.elim))⟩) fun w180 o181 => ?_
      clear Hz az; intro az Hz
      refine Pl.MSP (b := true) (by kernel_rfl) (fun W oW => r_addS Hz rfl rfl (by have e1 := numE_len (wr_ok hk1.1); have e2 := numE_len (wr_ok hk1.2.1); have e3 := numE_len (wr_ok hk1.2.2.1); have e4 := numsE_len (l := O) okO (by omega); have e5 := text_size2 (s := m.s) (by omega); (try simp only [List.length_append]); omega)) Hz rfl rfl ?_
      clear Hz az; intro az Hz
      refine Pl.MSV (v := strV (Wr.textE m.s)) Hz rfl rfl rfl Tryd.call22 (vText_v _ m.s (by omega)) rfl (fun w' o' => ⟨fun _ => (Only.trans' (Only.trans' (Only.trans' (Only.trans' o171 o173) o175) o181) o'), (Only.trans (Only.trans (Only.trans (Only.trans (Only.trans (Only.refl NoF w167) o171 (fun _ h => h.elim)) o173 (fun _ h => h.elim)) o175 (fun _ h => h.elim)) o181 (fun _ h => h.elim)) o' (fun _ h => h.elim))⟩) fun w182 o183 => ?_
      clear Hz az; intro az Hz
      refine Pl.MSP (b := true) (by kernel_rfl) (fun W oW => r_addS Hz rfl rfl (by have e1 := numE_len (wr_ok hk1.1); have e2 := numE_len (wr_ok hk1.2.1); have e3 := numE_len (wr_ok hk1.2.2.1); have e4 := numsE_len (l := O) okO (by omega); have e5 := text_size2 (s := m.s) (by omega); (try simp only [List.length_append]); omega)) Hz rfl rfl ?_
      clear Hz az; intro az Hz
      refine Pl.MSP (b := true) (by kernel_rfl) (fun W oW => r_as Hz rfl) Hz rfl rfl ?_
      clear Hz az; intro az Hz
      refine Pl.MSP (b := true) (by kernel_rfl) (fun W oW => r_as Hz rfl) Hz rfl rfl ?_
      clear Hz az; intro az Hz
      refine wpPl_nil ?_
      refine hK166 _ _ ?_
      refine wp_ret ?_
      show bodyPost _ _ _ .ret _ _
      refine ret_of (vs := [strV (Wr.numE m.h ++ Wr.numE m.n ++ Wr.numE m.d ++ Wr.numsE O ++ Wr.textE m.s), .bool (true)]) Hz Tryd.results56 ⟨rfl, rfl, trivial⟩ ?_
      have O184 : Only NoF w w182 := (Only.trans' (Only.trans' (Only.trans' (Only.trans' (Only.trans' (Only.trans' o24 o168) o171) o173) o175) o181) o183)
      rw [List.take_of_length_le (by omega)] at hO
      rw [hrt, if_pos rfl]; unfold encN; rw [← hO]; exact ⟨rfl, O184⟩
end Go.Proofs.YtgmnoianhonihaaDoor
