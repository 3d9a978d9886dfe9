/-
  Gossip: GossipJoins, walked: it returns true. Condition: the listed variables.
-/
import Derived.Test.YtdcbjedkddgfkaaDoorGoL
namespace Go.Proofs.YtdcbjedkddgfkaaDoor
set_option linter.unusedVariables false
set_option linter.unusedSimpArgs false
set_option linter.unusedSectionVars false
open Go.RowKit
theorem to_j {P : Program} {f : FuncId} {args : Array Value} {w : World} {X Y : List NM} (Q : List NM → Ending → World → Prop) (e : X = Y) (h : Calls P f args w (Q X)) : Calls P f args w (Q Y) := by
 subst e; exact h
def KR0 : Row NR := ⟨1, fun m => [.slice m.A m.l.length m.c], fun _ => True, fun _ => rfl, by decide, fun x u hu => by
 simp at hu
 subst hu; rfl⟩
set_option maxRecDepth 20000 in
set_option maxHeartbeats 4000000 in
theorem joins39_ {w : World} (hG : Gr w) {La : List NM} {A1 : Option Addr} {c1 : Nat} (t1 : NtV w (.slice A1 La.length c1) La) {Lb : List NM} {A2 : Option Addr} {c2 : Nat} (t2 : NtV w (.slice A2 Lb.length c2) Lb) {Lc : List NM} {A3 : Option Addr} {c3 : Nat} (t3 : NtV w (.slice A3 Lc.length c3) Lc) {Y : List UInt8} {A4 : Option Addr} {c4 : Nat} (f4 : SliceOf AllB 1 KU8.R w (.slice A4 Y.length c4) Y) {cut : Int} (hcut : 0 ≤ cut ∧ cut < 256) (house : Int) : Calls Tryd.prog 3 [.slice A1 (La.length) c1, .slice A2 (Lb.length) c2, .slice A3 (Lc.length) c3, .slice A4 (Y.length) c4, .int .u8 (cut), .int .i64 (house)].toArray w (Fix (.bool true) w) := by
 refine calls_start Tryd.func3 rfl rfl ?_
 intro az Z
 rw [Tryd.ntmps3] at Z
 refine wp_seq_k fun _ k1 => wp_region_lit ?_
 refine L (r_as Z rfl) Z rfl ?_; clear Z az; intro az Z
 refine k1 _ _ (wp_seq_k fun _ k2 => wp_region_lit ?_)
 have G3 := Gr.k hG (Only.refl NoF w)
 refine LCV (v := .bool (true)) Z rfl rfl Tryd.call9 (small39_v G3) rfl fun w4 o5 => ?_; clear Z az; intro az Z
 refine L (r_as Z rfl) Z rfl ?_; clear Z az; intro az Z
 refine k2 _ _ (wp_seq_k fun _ k6 => ?_)
 refine wp_seq_k fun _ k7 => wp_region_lit ?_
 refine L (r_mv Z rfl) Z rfl ?_; clear Z az; intro az Z
 refine LCV (v := .bool (few39 La 25)) Z rfl rfl Tryd.call10 (few39_v_ (NtV.k t1 o5) 25) rfl fun w8 o9 => ?_; clear Z az; intro az Z
 refine L (r_not Z rfl) Z rfl ?_; clear Z az; intro az Z
 refine L (r_mv Z rfl) Z rfl ?_; clear Z az; intro az Z
 refine LG Z rfl rfl gd_f (fun hb => r_mv Z rfl) rfl ?_; clear Z az; intro az Z
 have O10 : Only NoF w w8 := (Only.trans' o5 o9)
 refine LGV (v := .bool (few39 Lb 25)) Z rfl rfl gd_f rfl (fun hb => (evs_c (evg hb rfl) (evs_c rfl rfl))) Tryd.call10 (fun hb => few39_v_ (NtV.k t2 O10) 25) rfl fun w11 o12 => ?_; clear Z az; intro az Z
 refine LG Z rfl rfl gd_f (fun hb => r_not Z (evg hb rfl)) rfl ?_; clear Z az; intro az Z
 refine L (r_or Z rfl rfl rfl) Z rfl ?_; clear Z az; intro az Z
 refine L (r_mv Z rfl) Z rfl ?_; clear Z az; intro az Z
 refine LG Z rfl rfl gd_f (fun hb => r_mv Z rfl) rfl ?_; clear Z az; intro az Z
 have O13 : Only NoF w w11 := (Only.trans' O10 o12)
 refine LGV (v := .bool (few39 Lc 25)) Z rfl rfl gd_f rfl (fun hb => (evs_c (evg hb rfl) (evs_c rfl rfl))) Tryd.call10 (fun hb => few39_v_ (NtV.k t3 O13) 25) rfl fun w14 o15 => ?_; clear Z az; intro az Z
 refine LG Z rfl rfl gd_f (fun hb => r_not Z (evg hb rfl)) rfl ?_; clear Z az; intro az Z
 refine L (r_or Z rfl rfl rfl) Z rfl ?_; clear Z az; intro az Z
 refine L (r_mv Z rfl) Z rfl ?_; clear Z az; intro az Z
 refine LG Z rfl rfl gd_f (fun hb => r_mv Z rfl) rfl ?_; clear Z az; intro az Z
 refine LG Z rfl rfl gd_f (fun hb => r_lenL Tryd.underlying23 Z (evg hb rfl)) rfl ?_; clear Z az; intro az Z
 refine LG Z rfl rfl gd_f (fun hb => r_gtI Z (evg hb rfl) rfl) rfl ?_; clear Z az; intro az Z
 refine L (r_or Z rfl rfl rfl) Z rfl ?_; clear Z az; intro az Z
 refine k7 _ _ ?_
 refine br Z rfl (fun hc16 => ?_) (fun hc16 => ?_)
 ·
  have d17 := hc16
  refine wp_seq_k fun _ k18 => wp_region_lit ?_
  refine L (r_mv Z rfl) Z rfl ?_; clear Z az; intro az Z
  refine L (r_as Z rfl) Z rfl ?_; clear Z az; intro az Z
  refine k18 _ _ ?_
  refine wp_ret ?_
  show bodyPost _ _ _ .ret _ _
  refine ret_of (vs := [.bool (true)]) Z Tryd.results3 ⟨rfl, trivial⟩ ?_
  have O19 : Only NoF w w14 := (Only.trans' O13 o15)
  exact ⟨rfl, O19⟩
 ·
  have q20 : few39 La 25 = true := (nt_f (or_f (or_f (or_f hc16).1).1).1)
  have q21 : few39 Lb 25 = true := (nt_f (or_f (or_f (or_f hc16).1).1).2)
  have q22 : few39 Lc 25 = true := (nt_f (or_f (or_f hc16).1).2)
  have p23 := of_decide_eq_false (or_f hc16).2
  have hlLa := few_le q20
  have hlLb := few_le q21
  have hlLc := few_le q22
  refine wp_skip ?_
  refine k6 _ _ (wp_seq_k fun _ k24 => wp_region_lit ?_)
  refine L (r_mv Z rfl) Z rfl ?_; clear Z az; intro az Z
  refine L (r_mv Z rfl) Z rfl ?_; clear Z az; intro az Z
  have O26 : Only NoF w w14 := (Only.trans' O13 o15)
  have G25 := Gr.k hG O26
  have hC34 := Join_v_ G25 (NtV.k t1 O26) (NtV.k t2 O26) (by first | omega | (simp only [List.length_cons, List.length_nil]; omega))
  refine LC Z rfl rfl Tryd.call11 (hC34) rfl ?_
  rintro e w35 ⟨A27, c28, L29, rfl, hL30, hS31, hN32, o33⟩; refine ⟨_, rfl, ?_⟩
  clear Z az; intro az Z
  have nt36 : NtV w35 (.slice A27 (L29.length) c28) L29 := ⟨SliceOf.pl hS31, OkNs.pl hN32⟩
  have hm37 : L29.length ≤ 100 := (by have h0 := congrArg List.length hL30; rw [List.length_map] at h0; rw [h0]; exact Nat.le_trans (joinN_le _) (by (try simp only [List.length_append, List.length_cons, List.length_nil]); omega))
  refine L (r_as Z rfl) Z rfl ?_; clear Z az; intro az Z
  refine k24 _ _ (wp_seq_k fun _ k38 => wp_region_lit ?_)
  refine L (r_mv Z rfl) Z rfl ?_; clear Z az; intro az Z
  have O40 : Only NoF w w35 := (Only.trans' O26 o33)
  have G39 := Gr.k hG O40
  have hC48 := Join1_v G39 (NtV.k t1 O40) (by first | omega | (simp only [List.length_cons, List.length_nil]; omega))
  refine LC Z rfl rfl Tryd.call11 (hC48) rfl ?_
  rintro e w49 ⟨A41, c42, L43, rfl, hL44, hS45, hN46, o47⟩; refine ⟨_, rfl, ?_⟩
  clear Z az; intro az Z
  have nt50 : NtV w49 (.slice A41 (L43.length) c42) L43 := ⟨SliceOf.pl hS45, OkNs.pl hN46⟩
  have hm51 : L43.length ≤ 100 := (ns_len_le hL44 (Nat.le_trans (joinN_le _) (by first | omega | (simp only [List.length_cons, List.length_nil]; omega))))
  refine L (r_as Z rfl) Z rfl ?_; clear Z az; intro az Z
  refine k38 _ _ (wp_seq_k fun _ k52 => wp_region_lit ?_)
  refine L (r_mv Z rfl) Z rfl ?_; clear Z az; intro az Z
  refine L (r_cvJ Tryd.underlying5 Tryd.underlying3 Z rfl (by omega)) Z rfl ?_; clear Z az; intro az Z
  refine L (r_mv Z rfl) Z rfl ?_; clear Z az; intro az Z
  refine L (r_lenL Tryd.underlying22 Z rfl) Z rfl ?_; clear Z az; intro az Z
  have i53 : I64 ((((La.length : Nat) : Int) + 1)) := by unfold I64; omega
  refine L (r_addI (r := (((La.length : Nat) : Int) + 1)) Z rfl rfl rfl i53) Z rfl ?_; clear Z az; intro az Z
  refine L (r_remI Z rfl rfl (by omega)) Z rfl ?_; clear Z az; intro az Z
  refine L (r_as Z rfl) Z rfl ?_; clear Z az; intro az Z
  refine k52 _ _ (wp_seq_k fun _ k54 => wp_region_lit ?_)
  refine L (r_mv Z rfl) Z rfl ?_; clear Z az; intro az Z
  refine L (r_mv Z rfl) Z rfl ?_; clear Z az; intro az Z
  refine L (r_mv Z rfl) Z rfl ?_; clear Z az; intro az Z
  have O56 : Only NoF w w49 := (Only.trans' O40 o47)
  have G55 := Gr.k hG O56
  have hC64 := Join_v_ G55 (NtV.k t2 O56) (NtV.k t1 O56) (by first | omega | (simp only [List.length_cons, List.length_nil]; omega))
  refine LC Z rfl rfl Tryd.call11 (hC64) rfl ?_
  rintro e w65 ⟨A57, c58, L59, rfl, hL60, hS61, hN62, o63⟩; refine ⟨_, rfl, ?_⟩
  clear Z az; intro az Z
  have nt66 : NtV w65 (.slice A57 (L59.length) c58) L59 := ⟨SliceOf.pl hS61, OkNs.pl hN62⟩
  have hE67 : L59.map ns = joinN (La ++ Lb) := hL60.trans (join_comm _ _)
  have hm68 : L59.length ≤ 100 := (by have h0 := congrArg List.length hE67; rw [List.length_map] at h0; rw [h0]; exact Nat.le_trans (joinN_le _) (by (try simp only [List.length_append, List.length_cons, List.length_nil]); omega))
  have O69 : Only NoF w35 w65 := (Only.trans' o47 o63)
  refine LCV (v := .bool (true)) Z rfl rfl Tryd.call12 (fix_eq (congrArg Value.bool (decide_eq_true (hL30.trans hE67.symm))) (rSameChain_v (NtV.notes (NtV.k nt36 O69)) (NtV.notes nt66))) rfl fun w70 o71 => ?_; clear Z az; intro az Z
  refine L (r_mv Z rfl) Z rfl ?_; clear Z az; intro az Z
  refine LT Z rfl rfl (r_mv Z rfl) rfl ?_; clear Z az; intro az Z
  refine LT Z rfl rfl (r_mv Z rfl) rfl ?_; clear Z az; intro az Z
  have O73 : Only NoF w w70 := (Only.trans' (Only.trans' O56 o63) o71)
  have G72 := Gr.k hG O73
  have O74 : Only NoF w35 w70 := (Only.trans' O69 o71)
  have hC82 := Join_v_ G72 (NtV.k nt36 O74) (NtV.k t3 O73) (by first | omega | (simp only [List.length_cons, List.length_nil]; omega))
  refine LCT Z rfl rfl rfl rfl Tryd.call11 (hC82) rfl ?_
  rintro e w83 ⟨A75, c76, L77, rfl, hL78, hS79, hN80, o81⟩; refine ⟨_, rfl, ?_⟩
  clear Z az; intro az Z
  have nt84 : NtV w83 (.slice A75 (L77.length) c76) L77 := ⟨SliceOf.pl hS79, OkNs.pl hN80⟩
  have hE85 : L77.map ns = joinN ((La ++ Lb) ++ Lc) := hL78.trans (join_l hL30 _)
  have hm86 : L77.length ≤ 100 := (by have h0 := congrArg List.length hE85; rw [List.length_map] at h0; rw [h0]; exact Nat.le_trans (joinN_le _) (by (try simp only [List.length_append, List.length_cons, List.length_nil]); omega))
  refine LT Z rfl rfl (r_mv Z rfl) rfl ?_; clear Z az; intro az Z
  refine LT Z rfl rfl (r_mv Z rfl) rfl ?_; clear Z az; intro az Z
  refine LT Z rfl rfl (r_mv Z rfl) rfl ?_; clear Z az; intro az Z
  have O88 : Only NoF w w83 := (Only.trans' O73 o81)
  have G87 := Gr.k hG O88
  have hC96 := Join_v_ G87 (NtV.k t2 O88) (NtV.k t3 O88) (by first | omega | (simp only [List.length_cons, List.length_nil]; omega))
  refine LCT Z rfl rfl rfl rfl Tryd.call11 (hC96) rfl ?_
  rintro e w97 ⟨A89, c90, L91, rfl, hL92, hS93, hN94, o95⟩; refine ⟨_, rfl, ?_⟩
  clear Z az; intro az Z
  have nt98 : NtV w97 (.slice A89 (L91.length) c90) L91 := ⟨SliceOf.pl hS93, OkNs.pl hN94⟩
  have hm99 : L91.length ≤ 100 := (by have h0 := congrArg List.length hL92; rw [List.length_map] at h0; rw [h0]; exact Nat.le_trans (joinN_le _) (by (try simp only [List.length_append, List.length_cons, List.length_nil]); omega))
  have O101 : Only NoF w w97 := (Only.trans' O88 o95)
  have G100 := Gr.k hG O101
  have hC109 := Join_v_ G100 (NtV.k t1 O101) nt98 (by first | omega | (simp only [List.length_cons, List.length_nil]; omega))
  refine LCT Z rfl rfl rfl rfl Tryd.call11 (hC109) rfl ?_
  rintro e w110 ⟨A102, c103, L104, rfl, hL105, hS106, hN107, o108⟩; refine ⟨_, rfl, ?_⟩
  clear Z az; intro az Z
  have nt111 : NtV w110 (.slice A102 (L104.length) c103) L104 := ⟨SliceOf.pl hS106, OkNs.pl hN107⟩
  have hE112 : L104.map ns = joinN ((La ++ Lb) ++ Lc) := hL105.trans ((join_r hL92 _).trans (congrArg joinN (List.append_assoc _ _ _).symm))
  have hm113 : L104.length ≤ 100 := (by have h0 := congrArg List.length hE112; rw [List.length_map] at h0; rw [h0]; exact Nat.le_trans (joinN_le _) (by (try simp only [List.length_append, List.length_cons, List.length_nil]); omega))
  have O114 : Only NoF w83 w110 := (Only.trans' o95 o108)
  refine LGV (v := .bool (true)) Z rfl rfl gd_t rfl (fun hb => rfl) Tryd.call12 (fun hb => fix_eq (congrArg Value.bool (decide_eq_true (hE85.trans hE112.symm))) (rSameChain_v (NtV.notes (NtV.k nt84 O114)) (NtV.notes nt111))) rfl fun w115 o116 => ?_; clear Z az; intro az Z
  refine L (r_pick Z rfl rfl rfl) Z rfl ?_; clear Z az; intro az Z
  refine L (r_mv Z rfl) Z rfl ?_; clear Z az; intro az Z
  refine LT Z rfl rfl (r_mv Z rfl) rfl ?_; clear Z az; intro az Z
  refine LT Z rfl rfl (r_mv Z rfl) rfl ?_; clear Z az; intro az Z
  have O118 : Only NoF w w115 := (Only.trans' (Only.trans' O101 o108) o116)
  have G117 := Gr.k hG O118
  have hC126 := Join_v_ G117 (NtV.k t1 O118) (NtV.k t1 O118) (by first | omega | (simp only [List.length_cons, List.length_nil]; omega))
  refine LCT Z rfl rfl rfl rfl Tryd.call11 (hC126) rfl ?_
  rintro e w127 ⟨A119, c120, L121, rfl, hL122, hS123, hN124, o125⟩; refine ⟨_, rfl, ?_⟩
  clear Z az; intro az Z
  have nt128 : NtV w127 (.slice A119 (L121.length) c120) L121 := ⟨SliceOf.pl hS123, OkNs.pl hN124⟩
  have hE129 : L121.map ns = joinN La := hL122.trans (join_same _)
  have hm130 : L121.length ≤ 100 := (by have h0 := congrArg List.length hE129; rw [List.length_map] at h0; rw [h0]; exact Nat.le_trans (joinN_le _) (by (try simp only [List.length_append, List.length_cons, List.length_nil]); omega))
  refine LT Z rfl rfl (r_mv Z rfl) rfl ?_; clear Z az; intro az Z
  have O131 : Only NoF w49 w127 := (Only.trans' (Only.trans' (Only.trans' (Only.trans' (Only.trans' (Only.trans' o63 o71) o81) o95) o108) o116) o125)
  refine LGV (v := .bool (true)) Z rfl rfl gd_t rfl (fun hb => rfl) Tryd.call12 (fun hb => fix_eq (congrArg Value.bool (decide_eq_true (hE129.trans hL44.symm))) (rSameChain_v (NtV.notes nt128) (NtV.notes (NtV.k nt50 O131)))) rfl fun w132 o133 => ?_; clear Z az; intro az Z
  refine L (r_pick Z rfl rfl rfl) Z rfl ?_; clear Z az; intro az Z
  refine L (r_mv Z rfl) Z rfl ?_; clear Z az; intro az Z
  refine LT Z rfl rfl (r_mv Z rfl) rfl ?_; clear Z az; intro az Z
  refine LT Z rfl rfl (r_mv Z rfl) rfl ?_; clear Z az; intro az Z
  refine LT Z rfl rfl (r_mv Z rfl) rfl ?_; clear Z az; intro az Z
  have O134 : Only NoF w w132 := (Only.trans' (Only.trans' O118 o125) o133)
  obtain ⟨q135, hq136, hl137⟩ := rem_nat (a := cut) (n := (((La.length : Nat) : Int) + 1)) hcut.1 (by omega)
  have nt138 := NtS.top (m := q135) (NtV.k t1 O134) (by omega)
  have hl139 : (Int.tmod cut (((La.length : Nat) : Int) + 1)) = ((List.take q135 La).length : Int) := by rw [List.length_take, Nat.min_eq_left (by omega)]; omega
  have hc140 : (List.take q135 La).length ≤ c1 := Nat.le_trans (by rw [List.length_take]; omega) (SliceOf.cap_ (NtV.k t1 O134).1)
  refine LT Z rfl rfl (r_slh (m := (List.take q135 La).length) (size := 5) Tryd.underlying22 Tryd.sizeOf42 Z rfl rfl hl139 hc140) rfl ?_; clear Z az; intro az Z
  have G141 := Gr.k hG O134
  have hC149 := Join_v_ G141 (NtV.k t1 O134) nt138 (by first | omega | (simp only [List.length_cons, List.length_nil]; omega))
  refine LCT Z rfl rfl rfl rfl Tryd.call11 (hC149) rfl ?_
  rintro e w150 ⟨A142, c143, L144, rfl, hL145, hS146, hN147, o148⟩; refine ⟨_, rfl, ?_⟩
  clear Z az; intro az Z
  have nt151 : NtV w150 (.slice A142 (L144.length) c143) L144 := ⟨SliceOf.pl hS146, OkNs.pl hN147⟩
  have hE152 : L144.map ns = joinN La := hL145.trans (join_part _ _)
  have hm153 : L144.length ≤ 100 := (by have h0 := congrArg List.length hE152; rw [List.length_map] at h0; rw [h0]; exact Nat.le_trans (joinN_le _) (by (try simp only [List.length_append, List.length_cons, List.length_nil]); omega))
  refine LT Z rfl rfl (r_mv Z rfl) rfl ?_; clear Z az; intro az Z
  have O154 : Only NoF w49 w150 := (Only.trans' (Only.trans' O131 o133) o148)
  refine LGV (v := .bool (true)) Z rfl rfl gd_t rfl (fun hb => rfl) Tryd.call12 (fun hb => fix_eq (congrArg Value.bool (decide_eq_true (hE152.trans hL44.symm))) (rSameChain_v (NtV.notes nt151) (NtV.notes (NtV.k nt50 O154)))) rfl fun w155 o156 => ?_; clear Z az; intro az Z
  refine L (r_pick Z rfl rfl rfl) Z rfl ?_; clear Z az; intro az Z
  refine L (r_mv Z rfl) Z rfl ?_; clear Z az; intro az Z
  refine LT Z rfl rfl (r_mv Z rfl) rfl ?_; clear Z az; intro az Z
  refine LT Z rfl rfl (r_mv Z rfl) rfl ?_; clear Z az; intro az Z
  have O158 : Only NoF w w155 := (Only.trans' (Only.trans' O134 o148) o156)
  have G157 := Gr.k hG O158
  have O159 : Only NoF w49 w155 := (Only.trans' O154 o156)
  have hC167 := Join_v_ G157 (NtV.k nt50 O159) (NtV.k nt50 O159) (by first | omega | (simp only [List.length_cons, List.length_nil]; omega))
  refine LCT Z rfl rfl rfl rfl Tryd.call11 (hC167) rfl ?_
  rintro e w168 ⟨A160, c161, L162, rfl, hL163, hS164, hN165, o166⟩; refine ⟨_, rfl, ?_⟩
  clear Z az; intro az Z
  have nt169 : NtV w168 (.slice A160 (L162.length) c161) L162 := ⟨SliceOf.pl hS164, OkNs.pl hN165⟩
  have hE170 : L162.map ns = joinN La := hL163.trans ((join_same _).trans (join_ns hL44))
  have hm171 : L162.length ≤ 100 := (by have h0 := congrArg List.length hE170; rw [List.length_map] at h0; rw [h0]; exact Nat.le_trans (joinN_le _) (by (try simp only [List.length_append, List.length_cons, List.length_nil]); omega))
  refine LT Z rfl rfl (r_mv Z rfl) rfl ?_; clear Z az; intro az Z
  have O172 : Only NoF w49 w168 := (Only.trans' O159 o166)
  refine LGV (v := .bool (true)) Z rfl rfl gd_t rfl (fun hb => rfl) Tryd.call12 (fun hb => fix_eq (congrArg Value.bool (decide_eq_true (hE170.trans hL44.symm))) (rSameChain_v (NtV.notes nt169) (NtV.notes (NtV.k nt50 O172)))) rfl fun w173 o174 => ?_; clear Z az; intro az Z
  refine L (r_pick Z rfl rfl rfl) Z rfl ?_; clear Z az; intro az Z
  refine L (r_as Z rfl) Z rfl ?_; clear Z az; intro az Z
  refine k54 _ _ (wp_seq_k fun _ k175 => ?_)
  refine wp_seq_k fun _ k176 => wp_region_lit ?_
  refine L (r_mv Z rfl) Z rfl ?_; clear Z az; intro az Z
  refine L (r_not Z rfl) Z rfl ?_; clear Z az; intro az Z
  refine k176 _ _ ?_
  refine br_false Z rfl ?_
  refine wp_skip ?_
  refine k175 _ _ (wp_seq_k fun _ k177 => wp_region_lit ?_)
  refine L (r_mv Z rfl) Z rfl ?_; clear Z az; intro az Z
  refine L (r_mv Z rfl) Z rfl ?_; clear Z az; intro az Z
  refine L (r_mv Z rfl) Z rfl ?_; clear Z az; intro az Z
  have O185 : Only NoF w w173 := (Only.trans' (Only.trans' O158 o166) o174)
  have h186 := (SliceOf.kp f4 O185 (fun _ _ h => h) (fun _ _ _ _ h => h))
  have hC187 := shuf_v_ (NtV.k t1 O185).1 (by omega) h186 (by omega)
  refine LC Z rfl rfl Tryd.call13 (hC187) rfl ?_
  rintro e w188 ⟨A178, c179, O180, rfl, hM181, hl182, r183, o184⟩; refine ⟨_, rfl, ?_⟩
  clear Z az; intro az Z
  have O190 : Only NoF w w188 := (Only.trans' O185 o184)
  have nt189 : NtV w188 (.slice A178 (O180.length) c179) O180 := ⟨SliceOf.pl (Row.own KN0 r183 (fun _ _ => trivial)), fun x hx => (NtV.k t1 O190).2 x ((hM181 x).1 hx)⟩
  obtain ⟨A191, w192, hw, hA, r193, o194⟩ := Row.made (w := w188) KR0 (e := 22) ([(⟨A41, L43, c42⟩ : NR), (⟨A178, O180, c179⟩ : NR)] : List NR) (by simp only [List.length_cons, List.length_nil]; unfold maxLen; omega)
  refine L (r_bs (z := .slice none (0) 0) (size := 1) (vs := [(0, .slice A41 (L43.length) c42), (1, .slice A178 (O180.length) c179)]) (cs := List.flatMap KR0.cells [(⟨A41, L43, c42⟩ : NR), (⟨A178, O180, c179⟩ : NR)]) Tryd.underlying29 Tryd.sizeOf22 Tryd.zeroValue22 rfl (Fr.evalps Z rfl) (by kernel_rfl)) Z rfl ?_
  rw [← hw, ← hA]; clear Z az; intro az Z
  clear hw hA
  have ok195 : ∀ zq ∈ ([(⟨A41, L43, c42⟩ : NR), (⟨A178, O180, c179⟩ : NR)] : List NR), KR0.ok zq := by intro zq hx; simp only [List.mem_cons, List.not_mem_nil, or_false] at hx; rcases hx with rfl | rfl <;> first | exact trivial | exact trivial
  obtain ⟨RR, hRR⟩ : ∃ R : List NR, R = [(⟨A41, L43, c42⟩ : NR), (⟨A178, O180, c179⟩ : NR)] := ⟨_, rfl⟩
  have hRl : RR.length = 2 := by rw [hRR]; rfl
  have O196 : Only NoF w49 w192 := (Only.trans' (Only.trans' (Only.trans' O172 o174) o184) o194)
  have hRk : ∀ r ∈ RR, NtV w192 (.slice r.A r.l.length r.c) r.l ∧ r.l.length ≤ 1000000 ∧ joinN r.l = joinN La := by
          intro r hr
          rw [hRR] at hr
          rcases List.mem_cons.1 hr with e | e
          · rw [e]; exact ⟨(NtV.k nt50 O196), (Nat.le_trans hm51 (by decide)), (join_ns hL44)⟩
          · rw [List.mem_singleton.1 e]; exact ⟨(NtV.k nt189 o194), (show O180.length ≤ 1000000 by omega), (join_mem hM181)⟩
  rw [← hRR, hRl] at r193
  refine L (r_as Z rfl) Z rfl ?_; clear Z az; intro az Z
  refine k177 _ _ (wp_seq_k fun _ k197 => ?_)
  refine wp_seq_k fun _ k198 => wp_region_lit ?_
  refine L (r_as Z rfl) Z rfl ?_; clear Z az; intro az Z
  refine k198 _ _ ?_
  refine wp_block ?_
  refine wp_loop_m (fun mz az W => ∃ i : Nat, mz = 2 - i ∧ Fr 154 [(0, .slice A1 (La.length) c1), (5, .int .i64 (house)), (13, .bool (true)), (15, .slice A41 (L43.length) c42), (18, .slice A191 (2) 2), (19, .int .i64 ((i : Int)))] az ∧ (i ≤ 2) ∧ Only NoF w192 W) ?_ ?_
  ·
   exact ⟨_, 0, rfl, Z.cut ⟨rfl, rfl, rfl, rfl, rfl, rfl, trivial⟩, (by omega), (Only.refl NoF w192)⟩
  clear Z az
  rintro mz az w199 ⟨i, hm201, Z, hi, o200⟩
  refine wp_seq_k fun _ k202 => ?_
  refine wp_seq_k fun _ k203 => wp_region_lit ?_
  refine L (r_mv Z rfl) Z rfl ?_; clear Z az; intro az Z
  refine L (r_mv Z rfl) Z rfl ?_; clear Z az; intro az Z
  refine L (r_lenL Tryd.underlying29 Z rfl) Z rfl ?_; clear Z az; intro az Z
  refine L (r_ltI Z rfl rfl) Z rfl ?_; clear Z az; intro az Z
  refine k203 _ _ ?_
  refine br Z rfl (fun hc204 => ?_) (fun hc204 => ?_)
  ·
   have p205 := of_decide_eq_true hc204
   refine wp_skip ?_
   refine k202 _ _ (wp_seq_k fun _ k206 => ?_)
   refine wp_block ?_
   refine wp_seq_k fun _ k207 => wp_region_lit ?_
   refine L (r_mv Z rfl) Z rfl ?_; clear Z az; intro az Z
   refine L (r_mv Z rfl) Z rfl ?_; clear Z az; intro az Z
   have r208 := (ow_k r193 o200)
   have h209 := Row.ownN KR0 r208 hRl (fun _ _ => trivial)
   have hk210 : i < 2 := by omega
   have hk211 : i < (RR).length := by omega
   obtain ⟨m212, hm213, ok214, hA215⟩ := Row.el KR0 h209 hk211
   have E216 : ∀ W, Only NoF w199 W → CA W (eA A191 1 (i)) [.slice m212.A (m212.l.length) m212.c] := Row.ce KR0 h209 hm213 rfl
   have hr217 := hRk _ (List.mem_of_getElem? hm213)
   refine L (r_ia (k := i) (size := 1) Tryd.underlying29 Tryd.sizeOf22 Z rfl rfl rfl hk210 hA215) Z rfl ?_; clear Z az; intro az Z
   refine L (r_ld Tryd.isAgg22 Z rfl (CA.first (E216 _ (Only.refl NoF w199)))) Z rfl ?_; clear Z az; intro az Z
   refine L (r_as Z rfl) Z rfl ?_; clear Z az; intro az Z
   refine k207 _ _ (wp_seq_k fun _ k218 => ?_)
   refine wp_seq_k fun _ k219 => wp_region_lit ?_
   refine L (r_mv Z rfl) Z rfl ?_; clear Z az; intro az Z
   have O221 : Only NoF w w199 := (Only.trans' (Only.trans' O190 o194) o200)
   have G220 := Gr.k hG O221
   have hC229 := to_j (fun J => NOut J w199) hr217.2.2 (Join1_v G220 (NtV.k hr217.1 o200) hr217.2.1)
   refine LC Z rfl rfl Tryd.call11 (hC229) rfl ?_
   rintro e w230 ⟨A222, c223, L224, rfl, hL225, hS226, hN227, o228⟩; refine ⟨_, rfl, ?_⟩
   clear Z az; intro az Z
   have nt231 : NtV w230 (.slice A222 (L224.length) c223) L224 := ⟨SliceOf.pl hS226, OkNs.pl hN227⟩
   have hm232 : L224.length ≤ 100 := (ns_len_le hL225 (Nat.le_trans (joinN_le _) (by first | omega | ((try simp only [List.length_append, List.length_cons, List.length_nil]); omega))))
   refine L (r_mv Z rfl) Z rfl ?_; clear Z az; intro az Z
   have O233 : Only NoF w49 w230 := (Only.trans' (Only.trans' O196 o200) o228)
   refine LCV (v := .bool (true)) Z rfl rfl Tryd.call12 (fix_eq (congrArg Value.bool (decide_eq_true (hL225.trans hL44.symm))) (rSameChain_v (NtV.notes nt231) (NtV.notes (NtV.k nt50 O233)))) rfl fun w234 o235 => ?_; clear Z az; intro az Z
   refine L (r_not Z rfl) Z rfl ?_; clear Z az; intro az Z
   refine L (r_mv Z rfl) Z rfl ?_; clear Z az; intro az Z
   refine LT Z rfl rfl (r_mv Z rfl) rfl ?_; clear Z az; intro az Z
   have O237 : Only NoF w w234 := (Only.trans' (Only.trans' O221 o228) o235)
   have G236 := Gr.k hG O237
   have O238 : Only NoF w192 w234 := (Only.trans' (Only.trans' o200 o228) o235)
   have hC243 := to_j (fun J => IOut (forksN J) w234) hr217.2.2 (Forks_v_ G236 (NtV.k hr217.1 O238) hr217.2.1)
   refine LCT Z rfl rfl rfl rfl Tryd.call15 (hC243) rfl ?_
   rintro e w244 ⟨A239, c240, rfl, r241, o242⟩; refine ⟨_, rfl, ?_⟩
   clear Z az; intro az Z
   refine LT Z rfl rfl (r_mv Z rfl) rfl ?_; clear Z az; intro az Z
   have O246 : Only NoF w w244 := (Only.trans' O237 o242)
   have G245 := Gr.k hG O246
   have hC251 := Forks_v_ G245 (NtV.k t1 O246) (by first | omega | (simp only [List.length_cons, List.length_nil]; omega))
   refine LCT Z rfl rfl rfl rfl Tryd.call15 (hC251) rfl ?_
   rintro e w252 ⟨A247, c248, rfl, r249, o250⟩; refine ⟨_, rfl, ?_⟩
   clear Z az; intro az Z
   have h253 := Row.own KInt r241 (forks_ok _)
   have h254 := (SliceOf.kp h253 o250 (fun _ _ h => h) (fun _ _ _ _ h => h))
   have h255 := SliceOf.pl h254
   have h256 := Row.own KInt r249 (forks_ok _)
   have h257 := SliceOf.pl h256
   refine LGV (v := .bool (true)) Z rfl rfl gd_f rfl (fun hb => rfl) Tryd.call14 (fun hb => fix_eq (congrArg Value.bool (decide_eq_true rfl)) (sameI_v_ h255 h257)) rfl fun w258 o259 => ?_; clear Z az; intro az Z
   refine LT Z rfl rfl (r_not Z rfl) rfl ?_; clear Z az; intro az Z
   refine L (r_pick Z rfl rfl rfl) Z rfl ?_; clear Z az; intro az Z
   refine L (r_mv Z rfl) Z rfl ?_; clear Z az; intro az Z
   refine LT Z rfl rfl (r_mv Z rfl) rfl ?_; clear Z az; intro az Z
   refine LT Z rfl rfl (r_mv Z rfl) rfl ?_; clear Z az; intro az Z
   have O261 : Only NoF w w258 := (Only.trans' (Only.trans' O246 o250) o259)
   have G260 := Gr.k hG O261
   have O262 : Only NoF w192 w258 := (Only.trans' (Only.trans' (Only.trans' O238 o242) o250) o259)
   have hC270 := to_j (fun J => NOut (pastOfN J house) w258) hr217.2.2 (Past_v_ G260 (NtV.k hr217.1 O262) hr217.2.1 house)
   refine LCT Z rfl rfl rfl rfl Tryd.call16 (hC270) rfl ?_
   rintro e w271 ⟨A263, c264, L265, rfl, hL266, hS267, hN268, o269⟩; refine ⟨_, rfl, ?_⟩
   clear Z az; intro az Z
   have nt272 : NtV w271 (.slice A263 (L265.length) c264) L265 := ⟨SliceOf.pl hS267, OkNs.pl hN268⟩
   have hm273 : L265.length ≤ 1000000 := (pst_lim hL266)
   refine LT Z rfl rfl (r_mv Z rfl) rfl ?_; clear Z az; intro az Z
   refine LT Z rfl rfl (r_mv Z rfl) rfl ?_; clear Z az; intro az Z
   have O275 : Only NoF w w271 := (Only.trans' O261 o269)
   have G274 := Gr.k hG O275
   have hC283 := Past_v_ G274 (NtV.k t1 O275) (by first | omega | (simp only [List.length_cons, List.length_nil]; omega)) house
   refine LCT Z rfl rfl rfl rfl Tryd.call16 (hC283) rfl ?_
   rintro e w284 ⟨A276, c277, L278, rfl, hL279, hS280, hN281, o282⟩; refine ⟨_, rfl, ?_⟩
   clear Z az; intro az Z
   have nt285 : NtV w284 (.slice A276 (L278.length) c277) L278 := ⟨SliceOf.pl hS280, OkNs.pl hN281⟩
   have hm286 : L278.length ≤ 1000000 := (pst_lim hL279)
   refine LGV (v := .bool (true)) Z rfl rfl gd_f rfl (fun hb => rfl) Tryd.call12 (fun hb => fix_eq (congrArg Value.bool (decide_eq_true (hL266.trans hL279.symm))) (rSameChain_v (NtV.notes (NtV.k nt272 o282)) (NtV.notes nt285))) rfl fun w287 o288 => ?_; clear Z az; intro az Z
   refine LT Z rfl rfl (r_not Z rfl) rfl ?_; clear Z az; intro az Z
   refine L (r_pick Z rfl rfl rfl) Z rfl ?_; clear Z az; intro az Z
   refine k219 _ _ ?_
   refine br_false Z rfl ?_
   refine wp_skip ?_
   refine k218 _ _ (wp_seq_k fun _ k289 => wp_region_lit ?_)
   refine L (r_mv Z rfl) Z rfl ?_; clear Z az; intro az Z
   have O291 : Only NoF w w287 := (Only.trans' (Only.trans' O275 o282) o288)
   have G290 := Gr.k hG O291
   have O292 : Only NoF w192 w287 := (Only.trans' (Only.trans' (Only.trans' O262 o269) o282) o288)
   have hC300 := to_j (fun J => NOut (orderN J) w287) hr217.2.2 (Order_v_ G290 (NtV.k hr217.1 O292) hr217.2.1)
   refine LC Z rfl rfl Tryd.call17 (hC300) rfl ?_
   rintro e w301 ⟨A293, c294, L295, rfl, hL296, hS297, hN298, o299⟩; refine ⟨_, rfl, ?_⟩
   clear Z az; intro az Z
   have nt302 : NtV w301 (.slice A293 (L295.length) c294) L295 := ⟨SliceOf.pl hS297, OkNs.pl hN298⟩
   have hm303 : L295.length ≤ 1000000 := (ord_lim hL296 (by first | omega | ((try simp only [List.length_append, List.length_cons, List.length_nil]); omega)))
   refine L (r_mv Z rfl) Z rfl ?_; clear Z az; intro az Z
   have O305 : Only NoF w w301 := (Only.trans' O291 o299)
   have G304 := Gr.k hG O305
   have hC313 := Order_v_ G304 (NtV.k t1 O305) (by first | omega | (simp only [List.length_cons, List.length_nil]; omega))
   refine LC Z rfl rfl Tryd.call17 (hC313) rfl ?_
   rintro e w314 ⟨A306, c307, L308, rfl, hL309, hS310, hN311, o312⟩; refine ⟨_, rfl, ?_⟩
   clear Z az; intro az Z
   have nt315 : NtV w314 (.slice A306 (L308.length) c307) L308 := ⟨SliceOf.pl hS310, OkNs.pl hN311⟩
   have hm316 : L308.length ≤ 1000000 := (ord_lim hL309 (by first | omega | (simp only [List.length_cons, List.length_nil]; omega)))
   refine LCV (v := .bool (true)) Z rfl rfl Tryd.call12 (fix_eq (congrArg Value.bool (decide_eq_true (hL296.trans hL309.symm))) (rSameChain_v (NtV.notes (NtV.k nt302 o312)) (NtV.notes nt315))) rfl fun w317 o318 => ?_; clear Z az; intro az Z
   refine L (r_not Z rfl) Z rfl ?_; clear Z az; intro az Z
   refine L (r_mv Z rfl) Z rfl ?_; clear Z az; intro az Z
   refine LT Z rfl rfl (r_mv Z rfl) rfl ?_; clear Z az; intro az Z
   have O320 : Only NoF w w317 := (Only.trans' (Only.trans' O305 o312) o318)
   have G319 := Gr.k hG O320
   have O321 : Only NoF w192 w317 := (Only.trans' (Only.trans' (Only.trans' O292 o299) o312) o318)
   have hC327 := to_j (fun J => ROut (headsN J) w317) hr217.2.2 (Heads_v_ G319 (NtV.k hr217.1 O321) hr217.2.1)
   refine LCT Z rfl rfl rfl rfl Tryd.call19 (hC327) rfl ?_
   rintro e w328 ⟨A322, c323, rfl, r324, ok326, o325⟩; refine ⟨_, rfl, ?_⟩
   clear Z az; intro az Z
   have hb329 : (headsN (joinN La)).length ≤ 1000000 := heads_bnd (by first | omega | ((try simp only [List.length_append, List.length_cons, List.length_nil]); omega))
   refine LT Z rfl rfl (r_mv Z rfl) rfl ?_; clear Z az; intro az Z
   have O331 : Only NoF w w328 := (Only.trans' O320 o325)
   have G330 := Gr.k hG O331
   have hC337 := Heads_v_ G330 (NtV.k t1 O331) (by first | omega | (simp only [List.length_cons, List.length_nil]; omega))
   refine LCT Z rfl rfl rfl rfl Tryd.call19 (hC337) rfl ?_
   rintro e w338 ⟨A332, c333, rfl, r334, ok336, o335⟩; refine ⟨_, rfl, ?_⟩
   clear Z az; intro az Z
   have hb339 : (headsN (joinN La)).length ≤ 1000000 := heads_bnd (by first | omega | (simp only [List.length_cons, List.length_nil]; omega))
   have h340 := Row.own KRef r324 ok326
   have h341 := (SliceOf.kp h340 o335 (fun _ _ h => h) (fun _ _ _ _ h => h))
   have h342 := SliceOf.pl h341
   have h343 := Row.own KRef r334 ok336
   have h344 := SliceOf.pl h343
   refine LGV (v := .bool (true)) Z rfl rfl gd_f rfl (fun hb => rfl) Tryd.call18 (fun hb => fix_eq (congrArg Value.bool (decide_eq_true rfl)) (rSameRefs_v_ h342 h344)) rfl fun w345 o346 => ?_; clear Z az; intro az Z
   refine LT Z rfl rfl (r_not Z rfl) rfl ?_; clear Z az; intro az Z
   refine L (r_pick Z rfl rfl rfl) Z rfl ?_; clear Z az; intro az Z
   refine L (r_mv Z rfl) Z rfl ?_; clear Z az; intro az Z
   refine LT Z rfl rfl (r_mv Z rfl) rfl ?_; clear Z az; intro az Z
   have O348 : Only NoF w w345 := (Only.trans' (Only.trans' O331 o335) o346)
   have G347 := Gr.k hG O348
   have O349 : Only NoF w192 w345 := (Only.trans' (Only.trans' (Only.trans' O321 o325) o335) o346)
   have hC355 := to_j (fun J => ROut (missN J) w345) hr217.2.2 (Missing_v_ G347 (NtV.k hr217.1 O349) hr217.2.1)
   refine LCT Z rfl rfl rfl rfl Tryd.call20 (hC355) rfl ?_
   rintro e w356 ⟨A350, c351, rfl, r352, ok354, o353⟩; refine ⟨_, rfl, ?_⟩
   clear Z az; intro az Z
   have hb357 : (missN (joinN La)).length ≤ 400 := miss_len _
   refine LT Z rfl rfl (r_mv Z rfl) rfl ?_; clear Z az; intro az Z
   have O359 : Only NoF w w356 := (Only.trans' O348 o353)
   have G358 := Gr.k hG O359
   have hC365 := Missing_v_ G358 (NtV.k t1 O359) (by first | omega | (simp only [List.length_cons, List.length_nil]; omega))
   refine LCT Z rfl rfl rfl rfl Tryd.call20 (hC365) rfl ?_
   rintro e w366 ⟨A360, c361, rfl, r362, ok364, o363⟩; refine ⟨_, rfl, ?_⟩
   clear Z az; intro az Z
   have hb367 : (missN (joinN La)).length ≤ 400 := miss_len _
   have h368 := Row.own KRef r352 ok354
   have h369 := (SliceOf.kp h368 o363 (fun _ _ h => h) (fun _ _ _ _ h => h))
   have h370 := SliceOf.pl h369
   have h371 := Row.own KRef r362 ok364
   have h372 := SliceOf.pl h371
   refine LGV (v := .bool (true)) Z rfl rfl gd_f rfl (fun hb => rfl) Tryd.call18 (fun hb => fix_eq (congrArg Value.bool (decide_eq_true rfl)) (rSameRefs_v_ h370 h372)) rfl fun w373 o374 => ?_; clear Z az; intro az Z
   refine LT Z rfl rfl (r_not Z rfl) rfl ?_; clear Z az; intro az Z
   refine L (r_pick Z rfl rfl rfl) Z rfl ?_; clear Z az; intro az Z
   refine k289 _ _ ?_
   refine br_false Z rfl ?_
   refine wp_skip ?_
   refine k206 _ _ ?_
   refine wp_region_lit ?_
   refine L (r_mv Z rfl) Z rfl ?_; clear Z az; intro az Z
   have i375 : I64 (((i : Int) + 1)) := by unfold I64; omega
   refine L (r_addI (r := ((i : Int) + 1)) Z rfl rfl rfl i375) Z rfl ?_; clear Z az; intro az Z
   refine L (r_as Z rfl) Z rfl ?_; clear Z az; intro az Z
   have O376 : Only NoF w192 w373 := (Only.trans' (Only.trans' (Only.trans' O349 o353) o363) o374)
   exact ⟨_, (by omega), i + 1, rfl, Z.cut ⟨rfl, rfl, rfl, rfl, rfl, rfl, trivial⟩, (by omega), O376⟩
  ·
   have p377 := of_decide_eq_false hc204
   refine wp_exit ?_
   refine th_exit ?_
   refine th_exit ?_
   refine ib_hit ?_
   refine k197 _ _ (wp_seq_k fun _ k378 => wp_region_lit ?_)
   refine L (r_mv Z rfl) Z rfl ?_; clear Z az; intro az Z
   refine L (r_as Z rfl) Z rfl ?_; clear Z az; intro az Z
   refine k378 _ _ ?_
   refine wp_ret ?_
   show bodyPost _ _ _ .ret _ _
   refine ret_of (vs := [.bool (true)]) Z Tryd.results3 ⟨rfl, trivial⟩ ?_
   have O379 : Only NoF w w199 := (Only.trans' (Only.trans' O190 o194) o200)
   exact ⟨rfl, O379⟩
theorem joins39_v {w : World} (hG : Gr w) {v1 v2 v3 v4 : Value} {La Lb Lc : List NM} (f1 : NotesV w w v1 La) (f2 : NotesV w w v2 Lb) (f3 : NotesV w w v3 Lc) {Y : List UInt8} (f4 : SliceOf AllB 1 KU8.R w v4 Y) {cut : Int} (hcut : 0 ≤ cut ∧ cut < 256) (house : Int) : Calls Tryd.prog 3 #[v1, v2, v3, v4, .int .u8 cut, .int .i64 house] w (Fix (.bool true) w) := by
 obtain ⟨A1, c1, rfl, _⟩ := SliceOf.shape f1
 obtain ⟨A2, c2, rfl, _⟩ := SliceOf.shape f2
 obtain ⟨A3, c3, rfl, _⟩ := SliceOf.shape f3
 obtain ⟨A4, c4, rfl, _⟩ := SliceOf.shape f4
 exact joins39_ hG (NtV.of f1) (NtV.of f2) (NtV.of f3) f4 hcut house
end Go.Proofs.YtdcbjedkddgfkaaDoor
