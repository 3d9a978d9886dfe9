/-
  LinkParts, walked: it returns true. No condition.
-/
import Derived.Test.YtocbfobakmieoaaLkV1
namespace Go.Proofs.Ytocbfobakmieoaa
set_option linter.unusedVariables false
set_option linter.unusedSimpArgs false
set_option linter.unusedSectionVars false
open Go.RowKit

namespace Lnk
theorem part_step {l : List Ev} {k : Nat} {x : Ev} {m : Msg} {fb : Bool} (hm : l[k]? = some x) (h : ∀ e ∈ l.take k, e.k = 0 ∧ e.a = m.a ∧ e.b = m.b ∧ e.t = m.t → fb = true) :
    ∀ e ∈ l.take (k + 1), e.k = 0 ∧ e.a = m.a ∧ e.b = m.b ∧ e.t = m.t → (fb || (((decide (x.k = 0) && decide (x.a = m.a)) && decide (x.b = m.b)) && decide (x.t = m.t))) = true := by
  intro e he hp
  obtain ⟨hk, rfl⟩ := List.getElem?_eq_some_iff.1 hm
  rw [List.take_succ_eq_append_getElem hk] at he
  rcases List.mem_append.1 he with he | he
  · rw [h e he hp]; rfl
  · obtain rfl := List.mem_singleton.1 he
    obtain ⟨h1, h2, h3, h4⟩ := hp
    simp [h1, h2, h3, h4]
theorem part_end {a : Air} {l : List Ev} {i : Nat} {x : Msg} {fb : Bool} (hm : (runs a l).2.1[i]? = some x) (h1 : 0 < List.count x a.ms → fb = true) (h2 : ∀ e ∈ l, e.k = 0 ∧ e.a = x.a ∧ e.b = x.b ∧ e.t = x.t → fb = true) : fb = true := by
  rcases came_from x l a (List.mem_of_getElem? hm) with h | ⟨e, he, hk, h⟩
  · exact h1 (List.count_pos_iff.2 h)
  · refine h2 e he ⟨hk, ?_⟩
    subst h
    exact ⟨rfl, rfl, rfl⟩
end Lnk
set_option maxHeartbeats 4000000 in
theorem parts_v {w : World} {a : Air} {l m : List Ev} {A1 A2 A3 A4 : Option Addr} {c1 c2 c3 c4 : Nat} (f1 : Msgs w (.slice A1 a.ms.length c1) a.ms) (f2 : Prs w (.slice A2 a.cs.length c2) a.cs) (f3 : Evs w (.slice A3 l.length c3) l) (f4 : Evs w (.slice A4 m.length c4) m) :
    Calls Try.prog 6 [.agg #[.slice A1 a.ms.length c1, .slice A2 a.cs.length c2], .slice A3 l.length c3, .slice A4 m.length c4].toArray w (BoolTo w true) := by
  refine calls_start Try.func6 rfl rfl ?_
  intro az Hz
  rw [Try.ntmps6] at Hz
  refine wp_seq_k fun K1 hK1 => ?_
  -- law.go:151
  refine wp_region_lit ?_
  refine LBox Hz rfl rfl rfl ?_
  clear Hz az; intro g2 w3 hg6 hl7 o4 B5 az Hz
  refine L (r_as Hz rfl) Hz rfl ?_
  clear Hz az; intro az Hz
  refine hK1 _ _ ?_
  refine wp_seq_k fun K8 hK8 => ?_
  -- law.go:152
  refine wp_region_lit ?_
  refine LCV (v := .bool (true)) Hz rfl rfl Try.call8 (l38sane_c) rfl fun w9 o10 => ?_
  clear Hz az; intro az Hz
  refine L (r_as Hz rfl) Hz rfl ?_
  clear Hz az; intro az Hz
  refine hK8 _ _ ?_
  refine wp_seq_k fun K11 hK11 => ?_
  refine wp_seq_k fun K12 hK12 => ?_
  -- law.go:153
  refine wp_region_lit ?_
  have B13 := (Blk.k B5 o10)
  refine L (r_ldA Try.isAgg25 Try.sizeOf25 Hz rfl (Blk.ca B13) rfl) Hz rfl ?_
  clear Hz az; intro az Hz
  have O14 : Only NoF w w9 := (Only.trans' o4 o10)
  have h15 := (SliceOf.kp f1 O14 (fun _ _ h => h) (fun _ _ _ _ h => h))
  have h16 := (SliceOf.kp f2 O14 (fun _ _ h => h) (fun _ _ _ _ h => h))
  refine LCE Hz rfl rfl Try.call9 (kFew_c (show AirV _ _ a from ⟨_, _, rfl, h15, h16⟩) 20 (by omega)) rfl fun b19 w17 hs20 o18 => ?_
  clear Hz az; intro az Hz
  refine L (r_not Hz rfl) Hz rfl ?_
  clear Hz az; intro az Hz
  refine L (r_mv Hz rfl) Hz rfl ?_
  clear Hz az; intro az Hz
  refine LG Hz rfl rfl gd_f (fun hb => r_mv Hz rfl) rfl ?_
  clear Hz az; intro az Hz
  have O21 : Only NoF w w17 := (Only.trans' O14 o18)
  have h22 := (SliceOf.kp f3 O21 (fun _ _ h => h) (fun _ _ _ _ h => h))
  refine LGE Hz rfl rfl gd_f rfl (fun hb => (evs_c (evg hb rfl) (evs_c rfl rfl))) Try.call10 (fun hb => kFewE_c h22 15 (by omega)) rfl fun b25 w23 hs26 o24 => ?_
  clear Hz az; intro az Hz
  refine LG Hz rfl rfl gd_f (fun hb => r_not Hz (evg hb rfl)) rfl ?_
  clear Hz az; intro az Hz
  refine L (r_or Hz rfl rfl rfl) Hz rfl ?_
  clear Hz az; intro az Hz
  refine L (r_mv Hz rfl) Hz rfl ?_
  clear Hz az; intro az Hz
  refine LG Hz rfl rfl gd_f (fun hb => r_mv Hz rfl) rfl ?_
  clear Hz az; intro az Hz
  have O27 : Only NoF w w23 := (Only.trans' O21 o24)
  have h28 := (SliceOf.kp f4 O27 (fun _ _ h => h) (fun _ _ _ _ h => h))
  refine LGE Hz rfl rfl gd_f rfl (fun hb => (evs_c (evg hb rfl) (evs_c rfl rfl))) Try.call10 (fun hb => kFewE_c h28 15 (by omega)) rfl fun b31 w29 hs32 o30 => ?_
  clear Hz az; intro az Hz
  refine LG Hz rfl rfl gd_f (fun hb => r_not Hz (evg hb rfl)) rfl ?_
  clear Hz az; intro az Hz
  refine L (r_or Hz rfl rfl rfl) Hz rfl ?_
  clear Hz az; intro az Hz
  refine L (r_mv Hz rfl) Hz rfl ?_
  clear Hz az; intro az Hz
  have B33 := (Blk.k (Blk.k (Blk.k B13 o18) o24) o30)
  refine LG Hz rfl rfl gd_f (fun hb => r_ldA Try.isAgg25 Try.sizeOf25 Hz rfl (Blk.ca B33) rfl) rfl ?_
  clear Hz az; intro az Hz
  have O34 : Only NoF w w29 := (Only.trans' O27 o30)
  have h35 := (SliceOf.kp f1 O34 (fun _ _ h => h) (fun _ _ _ _ h => h))
  have h36 := (SliceOf.kp f2 O34 (fun _ _ h => h) (fun _ _ _ _ h => h))
  refine LGV (v := .bool (Lnk.right a)) Hz rfl rfl gd_f rfl (fun hb => (evs_c (evg hb rfl) rfl)) Try.call28 (fun hb => nRightA_c (show AirV _ _ a from ⟨_, _, rfl, h35, h36⟩)) rfl fun w37 o38 => ?_
  clear Hz az; intro az Hz
  refine LG Hz rfl rfl gd_f (fun hb => r_not Hz (evg hb rfl)) rfl ?_
  clear Hz az; intro az Hz
  refine L (r_or Hz rfl rfl rfl) Hz rfl ?_
  clear Hz az; intro az Hz
  refine hK12 _ _ ?_
  refine br Hz rfl (fun hc39 => ?_) (fun hc39 => ?_)
  · -- if0
    have d40 := hc39
    refine wp_seq_k fun K41 hK41 => ?_
    -- law.go:154
    refine wp_region_lit ?_
    refine L (r_mv Hz rfl) Hz rfl ?_
    clear Hz az; intro az Hz
    refine L (r_as Hz rfl) Hz rfl ?_
    clear Hz az; intro az Hz
    refine hK41 _ _ ?_
    refine wp_ret ?_
    show bodyPost _ _ _ .ret _ _
    refine ret_of (vs := [.bool (true)]) Hz Try.results6 ⟨rfl, trivial⟩ ?_
    have O42 : Only NoF w w37 := (Only.trans' O34 o38)
    exact ⟨rfl, O42⟩
  · -- else0
    have q43 : b19 = true := (nt_f (or_f (or_f (or_f hc39).1).1).1)
    have S44 := hs20 q43
    have q45 : b25 = true := (nt_f (or_f (or_f (or_f hc39).1).1).2)
    have S46 := hs26 (by rw [q43]; rfl) q45
    have q47 : b31 = true := (nt_f (or_f (or_f hc39).1).2)
    have S48 := hs32 (by rw [q43, q45]; rfl) q47
    have q49 : Lnk.right a = true := (nt_f (or_f hc39).2)
    have hal : (l ++ m).length = l.length + m.length := List.length_append
    obtain ⟨few1, few2, few3⟩ := S44; obtain ⟨fwe1, fwe2⟩ := S46; obtain ⟨fwf1, fwf2⟩ := S48
    refine wp_skip ?_
    refine hK11 _ _ ?_
    refine wp_seq_k fun K50 hK50 => ?_
    -- law.go:156
    refine wp_region_lit ?_
    obtain ⟨A51, w52, hw, hA, r53, o54⟩ := made0 (w := w37) (e := 48) (size := 4)
    refine L (r_bs0 Try.underlying28 Try.sizeOf48) Hz rfl ?_
    rw [← hw, ← hA]; clear Hz az; intro az Hz
    clear hw hA
    refine L (r_mv Hz rfl) Hz rfl ?_
    clear Hz az; intro az Hz
    have O55 : Only NoF w w52 := (Only.trans' (Only.trans' O34 o38) o54)
    have h56 := (SliceOf.kp f3 O55 (fun _ _ h => h) (fun _ _ _ _ h => h))
    have hb64 : (List.length (([] : List Ev)) + List.length (l)) * 40 ≤ 140737488355328 := by first | omega | (simp; omega)
    obtain ⟨A57, c58, w59, hr60, r61, o62, al63⟩ := Row.app (P := Try.prog) (l := ([] : List Ev)) (l2 := l) KEv elemEv r53 h56 hb64 (by unfold maxLen; omega) (size_only o54)
    simp only [List.nil_append, List.append_nil] at hr60 r61 al63
    refine L (r_app hr60 Hz rfl rfl) Hz rfl ?_
    clear Hz az; intro az Hz
    have ok65 : ∀ x ∈ l, KEv.ok x := (Row.oks KEv h56)
    have h66 := Row.own KEv r61 ok65
    refine L (r_mv Hz rfl) Hz rfl ?_
    clear Hz az; intro az Hz
    have O67 : Only NoF w w37 := (Only.trans' O34 o38)
    have O68 : Only NoF w w59 := (o_sg O55 o62 (size_only O67) (ownF_ge r53))
    have h69 := (SliceOf.kp f4 O68 (fun _ _ h => h) (fun _ _ _ _ h => h))
    have hb77 : (List.length (l) + List.length (m)) * 40 ≤ 140737488355328 := by first | omega | (simp; omega)
    have O78 : Only NoF w37 w59 := (o_sg o54 o62 (Nat.le_refl _) (ownF_ge r53))
    obtain ⟨A70, c71, w72, hr73, r74, o75, al76⟩ := Row.app (P := Try.prog) (l := l) (l2 := m) KEv elemEv r61 h69 hb77 (by unfold maxLen; omega) (size_only O78)
    refine L (r_app hr73 Hz rfl rfl) Hz rfl ?_
    clear Hz az; intro az Hz
    have ok79 : ∀ x ∈ (l ++ m), KEv.ok x := (fun x hx => (List.mem_append.1 hx).elim (ok65 x) ((Row.oks KEv h69) x))
    have h80 := Row.own KEv r74 ok79
    refine L (r_as Hz rfl) Hz rfl ?_
    clear Hz az; intro az Hz
    refine hK50 _ _ ?_
    refine wp_seq_k fun K81 hK81 => ?_
    -- law.go:157
    refine wp_region_lit ?_
    have O82 : Only NoF w3 w37 := (Only.trans' (Only.trans' (Only.trans' (Only.trans' o10 o18) o24) o30) o38)
    have B83 := (Blk.only (Blk.only (Blk.k (Blk.k B33 o38) o54) o62 (fun h => absurd ((ownF_ge r53) _ h) (Nat.not_le.2 (Nat.lt_of_lt_of_le hl7 (size_only O82))))) o75 (fun h => absurd ((ownF_ge r61) _ h) (Nat.not_le.2 (Nat.lt_of_lt_of_le hl7 (size_only O82)))))
    refine L (r_ldA Try.isAgg25 Try.sizeOf25 Hz rfl (Blk.ca B83) rfl) Hz rfl ?_
    clear Hz az; intro az Hz
    refine L (r_mv Hz rfl) Hz rfl ?_
    clear Hz az; intro az Hz
    have O84 : Only NoF w w72 := (o_sg O68 o75 (size_only O67) (ownF_ge r61))
    have h85 := (SliceOf.kp f1 O84 (fun _ _ h => h) (fun _ _ _ _ h => h))
    have h86 := (SliceOf.kp f2 O84 (fun _ _ h => h) (fun _ _ _ _ h => h))
    have h87 := (SliceOf.kp f3 O84 (fun _ _ h => h) (fun _ _ _ _ h => h))
    refine LC Hz rfl rfl Try.call24 (Run_v (show AirV _ _ a from ⟨_, _, rfl, h85, h86⟩) h87 q49 (by omega)) rfl ?_
    rintro e w101 ⟨A88, c92, A89, c93, A90, c94, A91, c95, rfl, f96, f97, f98, f99, o100⟩; refine ⟨_, rfl, ?_⟩
    clear Hz az; intro az Hz
    refine L (r_mv Hz rfl) Hz rfl ?_
    clear Hz az; intro az Hz
    refine L (r_ex Hz rfl rfl) Hz rfl ?_
    clear Hz az; intro az Hz
    refine L (r_ex Hz rfl rfl) Hz rfl ?_
    clear Hz az; intro az Hz
    refine L (r_ex Hz rfl rfl) Hz rfl ?_
    clear Hz az; intro az Hz
    refine LAl (v := .agg #[.slice none (0) 0, .slice none (0) 0]) zeroAir Hz rfl rfl ?_
    clear Hz az; intro g102 w103 hg106 hl107 o104 B105 az Hz
    refine LSt (cs' := [.slice A88 ((Lnk.runs a l).1.ms.length) c92, .slice A89 ((Lnk.runs a l).1.cs.length) c93]) Try.sizeOf25 Hz rfl rfl rfl rfl rfl ⟨rfl, rfl, trivial⟩ B105 rfl rfl fun w108 s109 B110 => ?_
    refine L (r_as Hz rfl) Hz rfl ?_
    clear Hz az; intro az Hz
    refine L (r_as Hz rfl) Hz rfl ?_
    clear Hz az; intro az Hz
    refine hK81 _ _ ?_
    refine wp_seq_k fun K111 hK111 => ?_
    -- law.go:158
    refine wp_region_lit ?_
    refine L (r_ldA Try.isAgg25 Try.sizeOf25 Hz rfl (Blk.ca B110) rfl) Hz rfl ?_
    clear Hz az; intro az Hz
    refine L (r_mv Hz rfl) Hz rfl ?_
    clear Hz az; intro az Hz
    have O112 : Only NoF w101 w108 := (o_sg o104 s109 (Nat.le_refl _) (oneF_ge hg106))
    have h113 := (SliceOf.kp f96 O112 (fun _ _ h => h) (fun _ _ _ _ h => h))
    have h114 := SliceOf.pl h113
    have h115 := (SliceOf.kp f97 O112 (fun _ _ h => h) (fun _ _ _ _ h => h))
    have h116 := SliceOf.pl h115
    have hr1 := Lnk.right_runs (l := l) q49
    have hc1 := runs_cuts a l
    have hrc := runs_came a l
    have O117 : Only NoF w w101 := (Only.trans' O84 o100)
    have O118 : Only NoF w w108 := (o_sg (Only.trans' (Only.trans' O84 o100) o104) s109 (size_only O117) (oneF_ge hg106))
    have h119 := (SliceOf.kp f4 O118 (fun _ _ h => h) (fun _ _ _ _ h => h))
    refine LC Hz rfl rfl Try.call24 (Run_v (show AirV _ _ (Lnk.runs a l).1 from ⟨_, _, rfl, h114, h116⟩) h119 hr1 (by omega)) rfl ?_
    rintro e w133 ⟨A120, c124, A121, c125, A122, c126, A123, c127, rfl, f128, f129, f130, f131, o132⟩; refine ⟨_, rfl, ?_⟩
    clear Hz az; intro az Hz
    refine L (r_mv Hz rfl) Hz rfl ?_
    clear Hz az; intro az Hz
    refine L (r_ex Hz rfl rfl) Hz rfl ?_
    clear Hz az; intro az Hz
    refine L (r_ex Hz rfl rfl) Hz rfl ?_
    clear Hz az; intro az Hz
    refine L (r_ex Hz rfl rfl) Hz rfl ?_
    clear Hz az; intro az Hz
    refine LAl (v := .agg #[.slice none (0) 0, .slice none (0) 0]) zeroAir Hz rfl rfl ?_
    clear Hz az; intro g134 w135 hg138 hl139 o136 B137 az Hz
    refine LSt (cs' := [.slice A120 ((Lnk.runs (Lnk.runs a l).1 m).1.ms.length) c124, .slice A121 ((Lnk.runs (Lnk.runs a l).1 m).1.cs.length) c125]) Try.sizeOf25 Hz rfl rfl rfl rfl rfl ⟨rfl, rfl, trivial⟩ B137 rfl rfl fun w140 s141 B142 => ?_
    refine L (r_as Hz rfl) Hz rfl ?_
    clear Hz az; intro az Hz
    refine L (r_as Hz rfl) Hz rfl ?_
    clear Hz az; intro az Hz
    refine hK111 _ _ ?_
    refine wp_seq_k fun K143 hK143 => ?_
    -- law.go:159
    refine wp_region_lit ?_
    have O145 : Only NoF w3 w101 := (Only.trans' (o_sg (o_sg (Only.trans' O82 o54) o62 (size_only O82) (ownF_ge r53)) o75 (size_only O82) (ownF_ge r61)) o100)
    have ne144 : g2 ≠ g102 := (ne_of hl7 (Nat.le_trans (size_only O145) hg106))
    have O147 : Only NoF w3 w133 := (Only.trans' (o_sg (Only.trans' O145 o104) s109 (size_only O145) (oneF_ge hg106)) o132)
    have ne146 : g2 ≠ g134 := (ne_of hl7 (Nat.le_trans (size_only O147) hg138))
    have B148 := (Blk.st (Blk.k (Blk.k (Blk.st (Blk.k (Blk.k B83 o100) o104) s109 ne144) o132) o136) s141 ne146)
    refine L (r_ldA Try.isAgg25 Try.sizeOf25 Hz rfl (Blk.ca B148) rfl) Hz rfl ?_
    clear Hz az; intro az Hz
    refine L (r_mv Hz rfl) Hz rfl ?_
    clear Hz az; intro az Hz
    have O149 : Only NoF w w133 := (Only.trans' O118 o132)
    have O150 : Only NoF w w140 := (o_sg (Only.trans' (Only.trans' O118 o132) o136) s141 (size_only O149) (oneF_ge hg138))
    have h151 := (SliceOf.kp f1 O150 (fun _ _ h => h) (fun _ _ _ _ h => h))
    have h152 := (SliceOf.kp f2 O150 (fun _ _ h => h) (fun _ _ _ _ h => h))
    have hap := Lnk.runs_append l m a
    have hrc3 := runs_came a (l ++ m)
    have hrl := Lnk.runs_len l a
    have hrl2 := Lnk.runs_len m (Lnk.runs a l).1
    have hrc2 := runs_came (Lnk.runs a l).1 m
    rw [List.length_append] at hrc3
    have O153 : Only NoF w72 w133 := (Only.trans' (o_sg (Only.trans' o100 o104) s109 (size_only o100) (oneF_ge hg106)) o132)
    have O154 : Only NoF w72 w140 := (o_sg (Only.trans' (Only.trans' (o_sg (Only.trans' o100 o104) s109 (size_only o100) (oneF_ge hg106)) o132) o136) s141 (size_only O153) (oneF_ge hg138))
    have h155 := (SliceOf.kp h80 O154 (fun _ _ h => h) (fun _ _ _ _ h => h))
    have h156 := SliceOf.pl h155
    refine LC Hz rfl rfl Try.call24 (Run_v (show AirV _ _ a from ⟨_, _, rfl, h151, h152⟩) h156 q49 (by rw [List.length_append]; omega)) rfl ?_
    rintro e w170 ⟨A157, c161, A158, c162, A159, c163, A160, c164, rfl, f165, f166, f167, f168, o169⟩; refine ⟨_, rfl, ?_⟩
    clear Hz az; intro az Hz
    refine L (r_mv Hz rfl) Hz rfl ?_
    clear Hz az; intro az Hz
    refine L (r_ex Hz rfl rfl) Hz rfl ?_
    clear Hz az; intro az Hz
    refine L (r_ex Hz rfl rfl) Hz rfl ?_
    clear Hz az; intro az Hz
    refine L (r_ex Hz rfl rfl) Hz rfl ?_
    clear Hz az; intro az Hz
    refine LAl (v := .agg #[.slice none (0) 0, .slice none (0) 0]) zeroAir Hz rfl rfl ?_
    clear Hz az; intro g171 w172 hg175 hl176 o173 B174 az Hz
    refine LSt (cs' := [.slice A157 ((Lnk.runs a (l ++ m)).1.ms.length) c161, .slice A158 ((Lnk.runs a (l ++ m)).1.cs.length) c162]) Try.sizeOf25 Hz rfl rfl rfl rfl rfl ⟨rfl, rfl, trivial⟩ B174 rfl rfl fun w177 s178 B179 => ?_
    refine L (r_as Hz rfl) Hz rfl ?_
    clear Hz az; intro az Hz
    refine L (r_as Hz rfl) Hz rfl ?_
    clear Hz az; intro az Hz
    refine hK143 _ _ ?_
    refine wp_seq_k fun K180 hK180 => ?_
    refine wp_seq_k fun K181 hK181 => ?_
    -- law.go:160
    refine wp_region_lit ?_
    have O183 := (Only.trans (Only.trans (Only.refl (fun _ => True) w135) s141 (fun _ _ => .inl trivial)) o169 (fun _ _ => .inl trivial))
    have ne182 : g134 ≠ g171 := (ne_of hl139 (Nat.le_trans (size_only O183) hg175))
    have B184 := (Blk.st (Blk.k (Blk.k B142 o169) o173) s178 ne182)
    refine L (r_ldA Try.isAgg25 Try.sizeOf25 Hz rfl (Blk.ca B184) rfl) Hz rfl ?_
    clear Hz az; intro az Hz
    refine L (r_ldA Try.isAgg25 Try.sizeOf25 Hz rfl (Blk.ca B179) rfl) Hz rfl ?_
    clear Hz az; intro az Hz
    have O185 : Only NoF w133 w170 := (Only.trans' (o_sg o136 s141 (Nat.le_refl _) (oneF_ge hg138)) o169)
    have O186 : Only NoF w133 w177 := (o_sg (Only.trans' (Only.trans' (o_sg o136 s141 (Nat.le_refl _) (oneF_ge hg138)) o169) o173) s178 (size_only O185) (oneF_ge hg175))
    have h187 := (SliceOf.kp f128 O186 (fun _ _ h => h) (fun _ _ _ _ h => h))
    have h188 := SliceOf.pl h187
    have h189 := (SliceOf.kp f129 O186 (fun _ _ h => h) (fun _ _ _ _ h => h))
    have h190 := SliceOf.pl h189
    have O191 : Only NoF w170 w177 := (o_sg o173 s178 (Nat.le_refl _) (oneF_ge hg175))
    have h192 := (SliceOf.kp f165 O191 (fun _ _ h => h) (fun _ _ _ _ h => h))
    have h193 := SliceOf.pl h192
    have h194 := (SliceOf.kp f166 O191 (fun _ _ h => h) (fun _ _ _ _ h => h))
    have h195 := SliceOf.pl h194
    refine LCV (v := .bool (true)) Hz rfl rfl Try.call13 (kSame_eq (show AirV _ _ (Lnk.runs (Lnk.runs a l).1 m).1 from ⟨_, _, rfl, h188, h190⟩) (show AirV _ _ (Lnk.runs a (l ++ m)).1 from ⟨_, _, rfl, h193, h195⟩) (congrArg (·.1) hap).symm) rfl fun w196 o197 => ?_
    clear Hz az; intro az Hz
    refine L (r_not Hz rfl) Hz rfl ?_
    clear Hz az; intro az Hz
    refine L (r_mv Hz rfl) Hz rfl ?_
    clear Hz az; intro az Hz
    obtain ⟨A198, w199, hw, hA, r200, o201⟩ := made0 (w := w196) (e := 27) (size := 3)
    refine LT Hz rfl rfl (r_bs0 Try.underlying22 Try.sizeOf27) rfl ?_
    rw [← hw, ← hA]; clear Hz az; intro az Hz
    clear hw hA
    refine LT Hz rfl rfl (r_mv Hz rfl) rfl ?_
    clear Hz az; intro az Hz
    have O202 : Only NoF w101 w133 := (Only.trans' O112 o132)
    have O203 : Only NoF w101 w170 := (Only.trans' (o_sg (Only.trans' O202 o136) s141 (size_only O202) (oneF_ge hg138)) o169)
    have O204 : Only NoF w101 w199 := (Only.trans' (Only.trans' (o_sg (Only.trans' (Only.trans' (o_sg (Only.trans' (Only.trans' O112 o132) o136) s141 (size_only O202) (oneF_ge hg138)) o169) o173) s178 (size_only O203) (oneF_ge hg175)) o197) o201)
    have h205 := (SliceOf.kp f98 O204 (fun _ _ h => h) (fun _ _ _ _ h => h))
    have hb213 : (List.length (([] : List Msg)) + List.length ((Lnk.runs a l).2.1)) * 32 ≤ 140737488355328 := by first | omega | (simp; omega)
    obtain ⟨A206, c207, w208, hr209, r210, o211, al212⟩ := Row.app (P := Try.prog) (l := ([] : List Msg)) (l2 := (Lnk.runs a l).2.1) KMsg elemMsg r200 h205 hb213 (by unfold maxLen; omega) (size_only o201)
    simp only [List.nil_append, List.append_nil] at hr209 r210 al212
    refine LT Hz rfl rfl (r_app hr209 Hz rfl rfl) rfl ?_
    clear Hz az; intro az Hz
    have ok214 : ∀ x ∈ (Lnk.runs a l).2.1, KMsg.ok x := (Row.oks KMsg h205)
    have h215 := Row.own KMsg r210 ok214
    refine LT Hz rfl rfl (r_mv Hz rfl) rfl ?_
    clear Hz az; intro az Hz
    have O216 : Only NoF w133 w196 := (Only.trans' O186 o197)
    have O217 : Only NoF w133 w208 := (o_sg (Only.trans' (Only.trans' O186 o197) o201) o211 (size_only O216) (ownF_ge r200))
    have h218 := (SliceOf.kp f130 O217 (fun _ _ h => h) (fun _ _ _ _ h => h))
    have hb226 : (List.length ((Lnk.runs a l).2.1) + List.length ((Lnk.runs (Lnk.runs a l).1 m).2.1)) * 32 ≤ 140737488355328 := by first | omega | (simp; omega)
    have O227 : Only NoF w196 w208 := (o_sg o201 o211 (Nat.le_refl _) (ownF_ge r200))
    obtain ⟨A219, c220, w221, hr222, r223, o224, al225⟩ := Row.app (P := Try.prog) (l := (Lnk.runs a l).2.1) (l2 := (Lnk.runs (Lnk.runs a l).1 m).2.1) KMsg elemMsg r210 h218 hb226 (by unfold maxLen; omega) (size_only O227)
    refine LT Hz rfl rfl (r_app hr222 Hz rfl rfl) rfl ?_
    clear Hz az; intro az Hz
    have ok228 : ∀ x ∈ ((Lnk.runs a l).2.1 ++ (Lnk.runs (Lnk.runs a l).1 m).2.1), KMsg.ok x := (fun x hx => (List.mem_append.1 hx).elim (ok214 x) ((Row.oks KMsg h218) x))
    have h229 := Row.own KMsg r223 ok228
    refine LT Hz rfl rfl (r_mv Hz rfl) rfl ?_
    clear Hz az; intro az Hz
    have h230 := SliceOf.pl h229
    have O231 : Only NoF w170 w196 := (Only.trans' O191 o197)
    have O232 : Only NoF w170 w221 := (o_sg (o_sg (Only.trans' (Only.trans' O191 o197) o201) o211 (size_only O231) (ownF_ge r200)) o224 (size_only O231) (ownF_ge r210))
    have h233 := (SliceOf.kp f167 O232 (fun _ _ h => h) (fun _ _ _ _ h => h))
    refine LGV (v := .bool (true)) Hz rfl rfl gd_f rfl (fun hb => rfl) Try.call26 (fun hb => kSameM_eq h230 h233 (congrArg (·.2.1) hap).symm) rfl fun w234 o235 => ?_
    clear Hz az; intro az Hz
    refine LT Hz rfl rfl (r_not Hz rfl) rfl ?_
    clear Hz az; intro az Hz
    refine L (r_pick Hz rfl rfl rfl) Hz rfl ?_
    clear Hz az; intro az Hz
    refine L (r_mv Hz rfl) Hz rfl ?_
    clear Hz az; intro az Hz
    obtain ⟨A236, w237, hw, hA, r238, o239⟩ := made0 (w := w234) (e := 32) (size := 1)
    refine LT Hz rfl rfl (r_bs0 Try.underlying40 Try.sizeOf32) rfl ?_
    rw [← hw, ← hA]; clear Hz az; intro az Hz
    clear hw hA
    refine LT Hz rfl rfl (r_mv Hz rfl) rfl ?_
    clear Hz az; intro az Hz
    have O240 : Only NoF w101 w196 := (Only.trans' (o_sg (Only.trans' O203 o173) s178 (size_only O203) (oneF_ge hg175)) o197)
    have O241 : Only NoF w101 w237 := (Only.trans' (Only.trans' (o_sg (o_sg O204 o211 (size_only O240) (ownF_ge r200)) o224 (size_only O240) (ownF_ge r210)) o235) o239)
    have h242 := (SliceOf.kp f99 O241 (fun _ _ h => h) (fun _ _ _ _ h => h))
    have hb250 : (List.length (([] : List Int)) + List.length ((Lnk.runs a l).2.2)) * 8 ≤ 140737488355328 := by first | omega | (simp; omega)
    obtain ⟨A243, c244, w245, hr246, r247, o248, al249⟩ := Row.app (P := Try.prog) (l := ([] : List Int)) (l2 := (Lnk.runs a l).2.2) KErr elemErr r238 h242 hb250 (by unfold maxLen; omega) (size_only o239)
    simp only [List.nil_append, List.append_nil] at hr246 r247 al249
    refine LT Hz rfl rfl (r_app hr246 Hz rfl rfl) rfl ?_
    clear Hz az; intro az Hz
    have ok251 : ∀ x ∈ (Lnk.runs a l).2.2, KErr.ok x := (Row.oks KErr h242)
    have h252 := Row.own KErr r247 ok251
    refine LT Hz rfl rfl (r_mv Hz rfl) rfl ?_
    clear Hz az; intro az Hz
    have O253 : Only NoF w133 w234 := (Only.trans' (o_sg O217 o224 (size_only O216) (ownF_ge r210)) o235)
    have O254 : Only NoF w133 w245 := (o_sg (Only.trans' (Only.trans' (o_sg O217 o224 (size_only O216) (ownF_ge r210)) o235) o239) o248 (size_only O253) (ownF_ge r238))
    have h255 := (SliceOf.kp f131 O254 (fun _ _ h => h) (fun _ _ _ _ h => h))
    have hb263 : (List.length ((Lnk.runs a l).2.2) + List.length ((Lnk.runs (Lnk.runs a l).1 m).2.2)) * 8 ≤ 140737488355328 := by first | omega | (simp; omega)
    have O264 : Only NoF w234 w245 := (o_sg o239 o248 (Nat.le_refl _) (ownF_ge r238))
    obtain ⟨A256, c257, w258, hr259, r260, o261, al262⟩ := Row.app (P := Try.prog) (l := (Lnk.runs a l).2.2) (l2 := (Lnk.runs (Lnk.runs a l).1 m).2.2) KErr elemErr r247 h255 hb263 (by unfold maxLen; omega) (size_only O264)
    refine LT Hz rfl rfl (r_app hr259 Hz rfl rfl) rfl ?_
    clear Hz az; intro az Hz
    have ok265 : ∀ x ∈ ((Lnk.runs a l).2.2 ++ (Lnk.runs (Lnk.runs a l).1 m).2.2), KErr.ok x := (fun x hx => (List.mem_append.1 hx).elim (ok251 x) ((Row.oks KErr h255) x))
    have h266 := Row.own KErr r260 ok265
    refine LT Hz rfl rfl (r_mv Hz rfl) rfl ?_
    clear Hz az; intro az Hz
    have h267 := SliceOf.pl h266
    have O268 : Only NoF w170 w234 := (Only.trans' O232 o235)
    have O269 : Only NoF w170 w258 := (o_sg (o_sg (Only.trans' (Only.trans' O232 o235) o239) o248 (size_only O268) (ownF_ge r238)) o261 (size_only O268) (ownF_ge r247))
    have h270 := (SliceOf.kp f168 O269 (fun _ _ h => h) (fun _ _ _ _ h => h))
    refine LGV (v := .bool (true)) Hz rfl rfl gd_f rfl (fun hb => rfl) Try.call27 (fun hb => kSameE_eq h267 h270 (congrArg (·.2.2) hap).symm) rfl fun w271 o272 => ?_
    clear Hz az; intro az Hz
    refine LT Hz rfl rfl (r_not Hz rfl) rfl ?_
    clear Hz az; intro az Hz
    refine L (r_pick Hz rfl rfl rfl) Hz rfl ?_
    clear Hz az; intro az Hz
    refine hK181 _ _ ?_
    refine br_false Hz rfl ?_
    refine wp_skip ?_
    refine hK180 _ _ ?_
    refine wp_seq_k fun K273 hK273 => ?_
    refine wp_seq_k fun K274 hK274 => ?_
    -- law.go:163
    refine wp_region_lit ?_
    refine L (r_as Hz rfl) Hz rfl ?_
    clear Hz az; intro az Hz
    refine hK274 _ _ ?_
    refine wp_block ?_
    refine wp_loop_m (fun mz az W => ∃ i : Nat, mz = (Lnk.runs a (l ++ m)).2.1.length - i ∧ Fr 162 [(3, .pointer (some ((⟨g2, 0, none⟩ : Addr)))), (7, .bool (true)), (8, .slice A70 (((l ++ m)).length) c71), (16, .slice A159 (((Lnk.runs a (l ++ m)).2.1).length) c163), (18, .int .i64 ((i : Int)))] az ∧ (i ≤ (Lnk.runs a (l ++ m)).2.1.length) ∧ Only NoF w271 W) ?_ ?_
    · -- start
      exact ⟨_, 0, rfl, Hz.cut ⟨rfl, rfl, rfl, rfl, rfl, trivial⟩, Nat.zero_le _, (Only.refl NoF w271)⟩
    clear Hz az
    rintro mz az w275 ⟨i, hm277, Hz, hi, o276⟩
    refine wp_seq_k fun K278 hK278 => ?_
    refine wp_seq_k fun K279 hK279 => ?_
    -- law.go:163
    refine wp_region_lit ?_
    refine L (r_mv Hz rfl) Hz rfl ?_
    clear Hz az; intro az Hz
    refine L (r_mv Hz rfl) Hz rfl ?_
    clear Hz az; intro az Hz
    refine L (r_lenL Try.underlying22 Hz rfl) Hz rfl ?_
    clear Hz az; intro az Hz
    refine L (r_ltI Hz rfl rfl) Hz rfl ?_
    clear Hz az; intro az Hz
    refine hK279 _ _ ?_
    refine br Hz rfl (fun hc280 => ?_) (fun hc280 => ?_)
    · -- if2
      have p281 := of_decide_eq_true hc280
      refine wp_skip ?_
      refine hK278 _ _ ?_
      refine wp_seq_k fun K282 hK282 => ?_
      refine wp_block ?_
      refine wp_seq_k fun K283 hK283 => ?_
      -- law.go:164
      refine reg_m NoF [6] [(true, 0), (true, 1), (true, 2), (true, 3), (true, 4), (true, 5), (false, 6), (true, 7), (true, 8)] (by kernel_rfl) (by kernel_rfl) (fun _ _ _ _ _ h => h) fun w284 o285 => ?_
      have O287 : Only NoF w3 w170 := (Only.trans' (o_sg (Only.trans' O147 o136) s141 (size_only O147) (oneF_ge hg138)) o169)
      have ne286 : g2 ≠ g171 := (ne_of hl7 (Nat.le_trans (size_only O287) hg175))
      have O288 : Only NoF w3 w196 := (Only.trans' (o_sg (Only.trans' O287 o173) s178 (size_only O287) (oneF_ge hg175)) o197)
      have O289 : Only NoF w3 w234 := (Only.trans' (o_sg (o_sg (Only.trans' O288 o201) o211 (size_only O288) (ownF_ge r200)) o224 (size_only O288) (ownF_ge r210)) o235)
      have B290 := (Blk.k (Blk.k (Blk.k (Blk.only (Blk.only (Blk.k (Blk.k (Blk.only (Blk.only (Blk.k (Blk.k (Blk.st (Blk.k (Blk.k B148 o169) o173) s178 ne286) o197) o201) o211 (fun h => absurd ((ownF_ge r200) _ h) (Nat.not_le.2 (Nat.lt_of_lt_of_le hl7 (size_only O288))))) o224 (fun h => absurd ((ownF_ge r210) _ h) (Nat.not_le.2 (Nat.lt_of_lt_of_le hl7 (size_only O288))))) o235) o239) o248 (fun h => absurd ((ownF_ge r238) _ h) (Nat.not_le.2 (Nat.lt_of_lt_of_le hl7 (size_only O289))))) o261 (fun h => absurd ((ownF_ge r247) _ h) (Nat.not_le.2 (Nat.lt_of_lt_of_le hl7 (size_only O289))))) o272) o276) o285)
      refine MSP (fun W oW => r_fa (m' := 0) Try.underlying25 rfl Try.sizeOf22 rfl Hz rfl rfl) Hz rfl rfl ?_
      clear Hz az; intro az Hz
      refine MS0 (r_ld Try.isAgg22 Hz rfl ((Blk.ca B290) 0 _ rfl)) Hz rfl (by kernel_rfl) rfl ?_
      clear Hz az; intro az Hz
      refine MSP (fun W oW => r_mv Hz rfl) Hz rfl rfl ?_
      clear Hz az; intro az Hz
      refine MSP (fun W oW => r_mv Hz rfl) Hz rfl rfl ?_
      clear Hz az; intro az Hz
      have hk291 : i < ((Lnk.runs a (l ++ m)).2.1).length := by omega
      have O297 : Only NoF w170 w284 := (Only.trans' (Only.trans' (Only.trans' O269 o272) o276) o285)
      have h298 := (SliceOf.kp f167 O297 (fun _ _ h => h) (fun _ _ _ _ h => h))
      obtain ⟨m292, hm293, ok294, hA295⟩ := Row.el KMsg h298 hk291
      have E296 : ∀ W, Only NoF w284 W → CA W (eA A159 3 (i)) [.int .i64 (m292.a), .int .i64 (m292.b), strV (m292.t)] := Row.ce KMsg h298 hm293 rfl
      refine MSP (fun W oW => r_ia (k := i) (size := 3) Try.underlying22 Try.sizeOf27 Hz rfl rfl rfl hk291 hA295) Hz rfl rfl ?_
      clear Hz az; intro az Hz
      refine MS0 (r_ldA Try.isAgg27 Try.sizeOf27 Hz rfl (E296 _ (Only.refl NoF w284)) rfl) Hz rfl (by kernel_rfl) rfl ?_
      clear Hz az; intro az Hz
      have O299 : Only NoF w w170 := (Only.trans' O150 o169)
      have O300 : Only NoF w w196 := (Only.trans' (o_sg (Only.trans' O299 o173) s178 (size_only O299) (oneF_ge hg175)) o197)
      have O301 : Only NoF w w234 := (Only.trans' (o_sg (o_sg (Only.trans' O300 o201) o211 (size_only O300) (ownF_ge r200)) o224 (size_only O300) (ownF_ge r210)) o235)
      have O302 : Only NoF w w284 := (Only.trans' (Only.trans' (Only.trans' (o_sg (o_sg (Only.trans' (Only.trans' (o_sg (o_sg (Only.trans' (Only.trans' (o_sg (Only.trans' (Only.trans' O150 o169) o173) s178 (size_only O299) (oneF_ge hg175)) o197) o201) o211 (size_only O300) (ownF_ge r200)) o224 (size_only O300) (ownF_ge r210)) o235) o239) o248 (size_only O301) (ownF_ge r238)) o261 (size_only O301) (ownF_ge r247)) o272) o276) o285)
      have h303 := (SliceOf.kp f1 O302 (fun _ _ h => h) (fun _ _ _ _ h => h))
      refine MSV (v := .int .i64 (((List.count m292 a.ms : Nat) : Int))) Hz rfl rfl rfl Try.call30 (l38count_c h303 m292) rfl (Only.refl NoF w284) fun w304 o305 => ?_
      clear Hz az; intro az Hz
      refine MSP (fun W oW => r_gtI Hz rfl rfl) Hz rfl rfl ?_
      clear Hz az; intro az Hz
      refine MSP (fun W oW => r_as Hz rfl) Hz rfl rfl ?_
      clear Hz az; intro az Hz
      refine wpMix_nil ?_
      refine hK283 _ _ ?_
      refine wp_seq_k fun K306 hK306 => ?_
      refine wp_seq_k fun K307 hK307 => ?_
      -- law.go:165
      refine wp_region_lit ?_
      refine L (r_as Hz rfl) Hz rfl ?_
      clear Hz az; intro az Hz
      refine hK307 _ _ ?_
      refine wp_block ?_
      refine wp_loop_m (fun mz az W => ∃ k : Nat, ∃ fb : Bool, mz = (l ++ m).length - k ∧ Fr 162 [(3, .pointer (some ((⟨g2, 0, none⟩ : Addr)))), (7, .bool (true)), (8, .slice A70 (((l ++ m)).length) c71), (16, .slice A159 (((Lnk.runs a (l ++ m)).2.1).length) c163), (18, .int .i64 ((i : Int))), (91, .int .i64 ((i : Int))), (92, .slice A159 (((Lnk.runs a (l ++ m)).2.1).length) c163), (93, .int .i64 ((((Lnk.runs a (l ++ m)).2.1).length : Nat))), (94, .bool (decide ((i : Int) < (((Lnk.runs a (l ++ m)).2.1).length : Nat)))), (97, .pointer (some (((⟨g2, 0, none⟩ : Addr)).add 0))), (98, .slice A1 (a.ms.length) c1), (99, .slice A159 (((Lnk.runs a (l ++ m)).2.1).length) c163), (100, .int .i64 ((i : Int))), (101, .pointer (some (eA A159 3 (i)))), (102, .agg #[.int .i64 (m292.a), .int .i64 (m292.b), strV (m292.t)]), (103, .int .i64 (((List.count m292 a.ms : Nat) : Int))), (104, .bool (decide (0 < ((List.count m292 a.ms : Nat) : Int)))), (20, .int .i64 ((k : Int))), (19, .bool (fb))] az ∧ (k ≤ (l ++ m).length) ∧ (0 < List.count m292 a.ms → fb = true) ∧ (∀ e ∈ (l ++ m).take k, e.k = 0 ∧ e.a = m292.a ∧ e.b = m292.b ∧ e.t = m292.t → fb = true) ∧ Only NoF w304 W) ?_ ?_
      · -- start
        exact ⟨_, 0, _, rfl, Hz.cut ⟨rfl, rfl, rfl, rfl, rfl, rfl, rfl, rfl, rfl, rfl, rfl, rfl, rfl, rfl, rfl, rfl, rfl, rfl, rfl, trivial⟩, Nat.zero_le _, (fun h => decide_eq_true (by omega)), (fun e he => by cases he), (Only.refl NoF w304)⟩
      clear Hz az
      rintro mz az w308 ⟨k, fb, hm310, Hz, hk, hf1, hf2, o309⟩
      refine wp_seq_k fun K311 hK311 => ?_
      refine wp_seq_k fun K312 hK312 => ?_
      -- law.go:165
      refine wp_region_lit ?_
      refine L (r_mv Hz rfl) Hz rfl ?_
      clear Hz az; intro az Hz
      refine L (r_mv Hz rfl) Hz rfl ?_
      clear Hz az; intro az Hz
      refine L (r_lenL Try.underlying28 Hz rfl) Hz rfl ?_
      clear Hz az; intro az Hz
      refine L (r_ltI Hz rfl rfl) Hz rfl ?_
      clear Hz az; intro az Hz
      refine hK312 _ _ ?_
      refine br Hz rfl (fun hc313 => ?_) (fun hc313 => ?_)
      · -- if3
        have p314 := of_decide_eq_true hc313
        refine wp_skip ?_
        refine hK311 _ _ ?_
        refine wp_seq_k fun K315 hK315 => ?_
        refine wp_block ?_
        -- law.go:166
        refine reg_q [(true, 0), (true, 1), (true, 2), (true, 3), (true, 4), (true, 5), (true, 6), (true, 7), (true, 8), (true, 9), (true, 10), (true, 11), (true, 12), (true, 13), (true, 14), (true, 15), (true, 16), (true, 17), (true, 18), (true, 19), (true, 20), (true, 21), (true, 22), (true, 23), (true, 24), (true, 25), (true, 26), (true, 27), (true, 28), (true, 29), (true, 30), (true, 31), (true, 32), (true, 33), (true, 34), (true, 35), (true, 36), (true, 37), (true, 38), (true, 39), (true, 40), (true, 41), (true, 42), (true, 43), (true, 44), (true, 45), (true, 46), (true, 47), (true, 48)] (by kernel_rfl) (by kernel_rfl) (fun _ _ _ _ _ h => h) fun w316 o317 => ?_
        refine M (r_mv Hz rfl) Hz rfl rfl ?_
        clear Hz az; intro az Hz
        refine M (r_mv Hz rfl) Hz rfl rfl ?_
        clear Hz az; intro az Hz
        refine MG Hz rfl rfl gd_f (fun hb => r_mv Hz rfl) rfl rfl ?_
        clear Hz az; intro az Hz
        refine MG Hz rfl rfl gd_f (fun hb => r_mv Hz rfl) rfl rfl ?_
        clear Hz az; intro az Hz
        have hk318 : k < ((l ++ m)).length := by omega
        have O324 : Only NoF w72 w170 := (Only.trans' O154 o169)
        have O325 : Only NoF w72 w196 := (Only.trans' (o_sg (Only.trans' O324 o173) s178 (size_only O324) (oneF_ge hg175)) o197)
        have O326 : Only NoF w72 w234 := (Only.trans' (o_sg (o_sg (Only.trans' O325 o201) o211 (size_only O325) (ownF_ge r200)) o224 (size_only O325) (ownF_ge r210)) o235)
        have O327 : Only NoF w72 w316 := (Only.trans' (Only.trans' (Only.trans' (Only.trans' (Only.trans' (Only.trans' (o_sg (o_sg (Only.trans' (Only.trans' (o_sg (o_sg (Only.trans' (Only.trans' (o_sg (Only.trans' (Only.trans' O154 o169) o173) s178 (size_only O324) (oneF_ge hg175)) o197) o201) o211 (size_only O325) (ownF_ge r200)) o224 (size_only O325) (ownF_ge r210)) o235) o239) o248 (size_only O326) (ownF_ge r238)) o261 (size_only O326) (ownF_ge r247)) o272) o276) o285) o305) o309) o317)
        have h328 := (SliceOf.kp h80 O327 (fun _ _ h => h) (fun _ _ _ _ h => h))
        have h329 := SliceOf.pl h328
        obtain ⟨m319, hm320, ok321, hA322⟩ := Row.el KEv h329 hk318
        have E323 : ∀ W, Only NoF w316 W → CA W (eA A70 4 (k)) [.int .i64 (m319.k), .int .i64 (m319.a), .int .i64 (m319.b), strV (m319.t)] := Row.ce KEv h329 hm320 rfl
        refine MG Hz rfl rfl gd_f (fun hb => r_ia (k := k) (size := 4) Try.underlying28 Try.sizeOf48 Hz (evg hb rfl) (evg hb rfl) rfl hk318 hA322) rfl rfl ?_
        clear Hz az; intro az Hz
        refine MG Hz rfl rfl gd_f (fun hb => r_fa (m' := 0) Try.underlying48 rfl Try.sizeOf3 rfl Hz (evg hb rfl) rfl) rfl rfl ?_
        clear Hz az; intro az Hz
        refine MG Hz rfl rfl gd_f (fun hb => r_ld Try.isAgg3 Hz (evg hb rfl) ((E323 _ (Only.refl NoF w316)) 0 _ rfl)) rfl rfl ?_
        clear Hz az; intro az Hz
        refine MG Hz rfl rfl gd_f (fun hb => r_eqI Hz (evg hb rfl) rfl) rfl rfl ?_
        clear Hz az; intro az Hz
        refine MG Hz rfl rfl gd_f (fun hb => r_mv Hz (evg hb rfl)) rfl rfl ?_
        clear Hz az; intro az Hz
        refine MG Hz rfl rfl gd_gt (fun hb => r_mv Hz rfl) rfl rfl ?_
        clear Hz az; intro az Hz
        refine MG Hz rfl rfl gd_gt (fun hb => r_mv Hz rfl) rfl rfl ?_
        clear Hz az; intro az Hz
        refine MG Hz rfl rfl gd_gt (fun hb => r_ia (k := k) (size := 4) Try.underlying28 Try.sizeOf48 Hz (evg hb rfl) (evg hb rfl) rfl hk318 hA322) rfl rfl ?_
        clear Hz az; intro az Hz
        refine MG Hz rfl rfl gd_gt (fun hb => r_fa (m' := 1) Try.underlying48 rfl Try.sizeOf3 rfl Hz (evg hb rfl) rfl) rfl rfl ?_
        clear Hz az; intro az Hz
        refine MG Hz rfl rfl gd_gt (fun hb => r_ld Try.isAgg3 Hz (evg hb rfl) ((E323 _ (Only.refl NoF w316)) 1 _ rfl)) rfl rfl ?_
        clear Hz az; intro az Hz
        refine MG Hz rfl rfl gd_gt (fun hb => r_mv Hz rfl) rfl rfl ?_
        clear Hz az; intro az Hz
        refine MG Hz rfl rfl gd_gt (fun hb => r_mv Hz rfl) rfl rfl ?_
        clear Hz az; intro az Hz
        refine MG Hz rfl rfl gd_gt (fun hb => r_ia (k := i) (size := 3) Try.underlying22 Try.sizeOf27 Hz (evg hb rfl) (evg hb rfl) rfl hk291 hA295) rfl rfl ?_
        clear Hz az; intro az Hz
        refine MG Hz rfl rfl gd_gt (fun hb => r_fa (m' := 0) Try.underlying27 rfl Try.sizeOf3 rfl Hz (evg hb rfl) rfl) rfl rfl ?_
        clear Hz az; intro az Hz
        have O330 : Only NoF w284 w316 := (Only.trans' (Only.trans' o305 o309) o317)
        refine MG Hz rfl rfl gd_gt (fun hb => r_ld Try.isAgg3 Hz (evg hb rfl) ((E296 _ O330) 0 _ rfl)) rfl rfl ?_
        clear Hz az; intro az Hz
        refine MG Hz rfl rfl gd_gt (fun hb => r_eqI Hz (evg hb rfl) (evg hb rfl)) rfl rfl ?_
        clear Hz az; intro az Hz
        refine MG Hz rfl rfl gd_f (fun hb => r_and Hz (evg hb rfl) (evgc hb rfl) rfl) rfl rfl ?_
        clear Hz az; intro az Hz
        refine MG Hz rfl rfl gd_f (fun hb => r_mv Hz (evg hb rfl)) rfl rfl ?_
        clear Hz az; intro az Hz
        refine MG Hz rfl rfl gd_gt (fun hb => r_mv Hz rfl) rfl rfl ?_
        clear Hz az; intro az Hz
        refine MG Hz rfl rfl gd_gt (fun hb => r_mv Hz rfl) rfl rfl ?_
        clear Hz az; intro az Hz
        refine MG Hz rfl rfl gd_gt (fun hb => r_ia (k := k) (size := 4) Try.underlying28 Try.sizeOf48 Hz (evg hb rfl) (evg hb rfl) rfl hk318 hA322) rfl rfl ?_
        clear Hz az; intro az Hz
        refine MG Hz rfl rfl gd_gt (fun hb => r_fa (m' := 2) Try.underlying48 rfl Try.sizeOf3 rfl Hz (evg hb rfl) rfl) rfl rfl ?_
        clear Hz az; intro az Hz
        refine MG Hz rfl rfl gd_gt (fun hb => r_ld Try.isAgg3 Hz (evg hb rfl) ((E323 _ (Only.refl NoF w316)) 2 _ rfl)) rfl rfl ?_
        clear Hz az; intro az Hz
        refine MG Hz rfl rfl gd_gt (fun hb => r_mv Hz rfl) rfl rfl ?_
        clear Hz az; intro az Hz
        refine MG Hz rfl rfl gd_gt (fun hb => r_mv Hz rfl) rfl rfl ?_
        clear Hz az; intro az Hz
        refine MG Hz rfl rfl gd_gt (fun hb => r_ia (k := i) (size := 3) Try.underlying22 Try.sizeOf27 Hz (evg hb rfl) (evg hb rfl) rfl hk291 hA295) rfl rfl ?_
        clear Hz az; intro az Hz
        refine MG Hz rfl rfl gd_gt (fun hb => r_fa (m' := 1) Try.underlying27 rfl Try.sizeOf3 rfl Hz (evg hb rfl) rfl) rfl rfl ?_
        clear Hz az; intro az Hz
        refine MG Hz rfl rfl gd_gt (fun hb => r_ld Try.isAgg3 Hz (evg hb rfl) ((E296 _ O330) 1 _ rfl)) rfl rfl ?_
        clear Hz az; intro az Hz
        refine MG Hz rfl rfl gd_gt (fun hb => r_eqI Hz (evg hb rfl) (evg hb rfl)) rfl rfl ?_
        clear Hz az; intro az Hz
        refine MG Hz rfl rfl gd_f (fun hb => r_and Hz (evg hb rfl) (evgc hb rfl) rfl) rfl rfl ?_
        clear Hz az; intro az Hz
        refine MG Hz rfl rfl gd_f (fun hb => r_mv Hz (evg hb rfl)) rfl rfl ?_
        clear Hz az; intro az Hz
        refine MG Hz rfl rfl gd_gt (fun hb => r_mv Hz rfl) rfl rfl ?_
        clear Hz az; intro az Hz
        refine MG Hz rfl rfl gd_gt (fun hb => r_mv Hz rfl) rfl rfl ?_
        clear Hz az; intro az Hz
        refine MG Hz rfl rfl gd_gt (fun hb => r_ia (k := k) (size := 4) Try.underlying28 Try.sizeOf48 Hz (evg hb rfl) (evg hb rfl) rfl hk318 hA322) rfl rfl ?_
        clear Hz az; intro az Hz
        refine MG Hz rfl rfl gd_gt (fun hb => r_fa (m' := 3) Try.underlying48 rfl Try.sizeOf9 rfl Hz (evg hb rfl) rfl) rfl rfl ?_
        clear Hz az; intro az Hz
        refine MG Hz rfl rfl gd_gt (fun hb => r_ld Try.isAgg9 Hz (evg hb rfl) ((E323 _ (Only.refl NoF w316)) 3 _ rfl)) rfl rfl ?_
        clear Hz az; intro az Hz
        refine MG Hz rfl rfl gd_gt (fun hb => r_mv Hz rfl) rfl rfl ?_
        clear Hz az; intro az Hz
        refine MG Hz rfl rfl gd_gt (fun hb => r_mv Hz rfl) rfl rfl ?_
        clear Hz az; intro az Hz
        refine MG Hz rfl rfl gd_gt (fun hb => r_ia (k := i) (size := 3) Try.underlying22 Try.sizeOf27 Hz (evg hb rfl) (evg hb rfl) rfl hk291 hA295) rfl rfl ?_
        clear Hz az; intro az Hz
        refine MG Hz rfl rfl gd_gt (fun hb => r_fa (m' := 2) Try.underlying27 rfl Try.sizeOf9 rfl Hz (evg hb rfl) rfl) rfl rfl ?_
        clear Hz az; intro az Hz
        refine MG Hz rfl rfl gd_gt (fun hb => r_ld Try.isAgg9 Hz (evg hb rfl) ((E296 _ O330) 2 _ rfl)) rfl rfl ?_
        clear Hz az; intro az Hz
        refine MG Hz rfl rfl gd_gt (fun hb => r_eqS Hz (evg hb rfl) (evg hb rfl)) rfl rfl ?_
        clear Hz az; intro az Hz
        refine MG Hz rfl rfl gd_f (fun hb => r_and Hz (evg hb rfl) (evgc hb rfl) rfl) rfl rfl ?_
        clear Hz az; intro az Hz
        refine M (r_or Hz rfl rfl rfl) Hz rfl rfl ?_
        clear Hz az; intro az Hz
        refine M (r_as Hz rfl) Hz rfl rfl ?_
        clear Hz az; intro az Hz
        refine wpMix_nil ?_
        refine hK315 _ _ ?_
        -- law.go:165
        refine wp_region_lit ?_
        refine L (r_mv Hz rfl) Hz rfl ?_
        clear Hz az; intro az Hz
        have i331 : I64 ((k : Int) + 1) := by unfold I64; omega
        refine L (r_addI (r := ((k : Int) + 1)) Hz rfl rfl rfl i331) Hz rfl ?_
        clear Hz az; intro az Hz
        refine L (r_as Hz rfl) Hz rfl ?_
        clear Hz az; intro az Hz
        have O332 : Only NoF w304 w316 := (Only.trans' o309 o317)
        exact ⟨_, (by omega), k + 1, _, rfl, Hz.cut ⟨rfl, rfl, rfl, rfl, rfl, rfl, rfl, rfl, rfl, rfl, rfl, rfl, rfl, rfl, rfl, rfl, rfl, rfl, rfl, trivial⟩, (by omega), (fun h => by rw [hf1 h]; rfl), (Lnk.part_step hm320 hf2), O332⟩
      · -- else3
        have p333 := of_decide_eq_false hc313
        refine wp_exit ?_
        refine th_exit ?_
        refine th_exit ?_
        refine ib_hit ?_
        refine hK306 _ _ ?_
        refine wp_seq_k fun K334 hK334 => ?_
        -- law.go:168
        refine wp_region_lit ?_
        refine L (r_mv Hz rfl) Hz rfl ?_
        clear Hz az; intro az Hz
        refine L (r_not Hz rfl) Hz rfl ?_
        clear Hz az; intro az Hz
        refine hK334 _ _ ?_
        refine br Hz rfl (fun hc335 => ?_) (fun hc335 => ?_)
        · -- if4
          have q336 : fb = false := (nt_t hc335)
          exfalso; rw [List.take_of_length_le (by omega)] at hf2
          have hx := Lnk.part_end hm293 hf1 hf2
          rw [hx] at hc335; cases hc335
        · -- else4
          have q337 : fb = true := (nt_f hc335)
          refine wp_skip ?_
          refine hK282 _ _ ?_
          -- law.go:163
          refine wp_region_lit ?_
          refine L (r_mv Hz rfl) Hz rfl ?_
          clear Hz az; intro az Hz
          have i338 : I64 ((i : Int) + 1) := by unfold I64; omega
          refine L (r_addI (r := ((i : Int) + 1)) Hz rfl rfl rfl i338) Hz rfl ?_
          clear Hz az; intro az Hz
          refine L (r_as Hz rfl) Hz rfl ?_
          clear Hz az; intro az Hz
          have O339 : Only NoF w271 w308 := (Only.trans' (Only.trans' (Only.trans' o276 o285) o305) o309)
          exact ⟨_, (by omega), i + 1, rfl, Hz.cut ⟨rfl, rfl, rfl, rfl, rfl, trivial⟩, (by omega), O339⟩
    · -- else2
      have p340 := of_decide_eq_false hc280
      refine wp_exit ?_
      refine th_exit ?_
      refine th_exit ?_
      refine ib_hit ?_
      refine hK273 _ _ ?_
      refine wp_seq_k fun K341 hK341 => ?_
      -- law.go:172
      refine wp_region_lit ?_
      refine L (r_mv Hz rfl) Hz rfl ?_
      clear Hz az; intro az Hz
      refine L (r_as Hz rfl) Hz rfl ?_
      clear Hz az; intro az Hz
      refine hK341 _ _ ?_
      refine wp_ret ?_
      show bodyPost _ _ _ .ret _ _
      refine ret_of (vs := [.bool (true)]) Hz Try.results6 ⟨rfl, trivial⟩ ?_
      have O342 : Only NoF w w170 := (Only.trans' O150 o169)
      have O343 : Only NoF w w196 := (Only.trans' (o_sg (Only.trans' O342 o173) s178 (size_only O342) (oneF_ge hg175)) o197)
      have O344 : Only NoF w w234 := (Only.trans' (o_sg (o_sg (Only.trans' O343 o201) o211 (size_only O343) (ownF_ge r200)) o224 (size_only O343) (ownF_ge r210)) o235)
      have O345 : Only NoF w w275 := (Only.trans' (Only.trans' (o_sg (o_sg (Only.trans' (Only.trans' (o_sg (o_sg (Only.trans' (Only.trans' (o_sg (Only.trans' (Only.trans' O150 o169) o173) s178 (size_only O342) (oneF_ge hg175)) o197) o201) o211 (size_only O343) (ownF_ge r200)) o224 (size_only O343) (ownF_ge r210)) o235) o239) o248 (size_only O344) (ownF_ge r238)) o261 (size_only O344) (ownF_ge r247)) o272) o276)
      exact ⟨rfl, O345⟩
end Go.Proofs.Ytocbfobakmieoaa
