/-
  The wire: the reader's calls but for lists, Open, the encodings but for lists, walked. Condition: at most 1,000,000 bytes.
-/
import Derived.Test.YtlnadcihnfppaaaGreatDoorWW1
namespace Go.Proofs.YtlnadcihnfppaaaGreatDoor
set_option linter.unusedVariables false
set_option linter.unusedSimpArgs false
set_option linter.unusedSectionVars false
open Go.RowKit

theorem build_Rd (t : Str) (w : World) : (Instr.build 103 #[(0, strV t)]).run Tryz.prog w = .ok (.agg #[strV t, .bool false]) w := by kernel_rfl
def OpenTo (t : Str) (w : World) (e : Ending) (w' : World) : Prop := ∃ g, e = .returned (.pointer (some ⟨g, 0, none⟩)) ∧ w.heap.size ≤ g ∧ Blk w' g 103 [strV t, .bool false].toArray ∧ Only NoF w w'
namespace Wr
theorem text_f1 {s : Rd} (h : (((number s 58 0).2.r.length : Nat) : Int) < (number s 58 0).1) : text s = ([], failed) := by
  unfold text; rw [if_pos h]
theorem text_f2 {s : Rd} {q : Nat} (h : ¬ (((number s 58 0).2.r.length : Nat) : Int) < (number s 58 0).1) (hq : (number s 58 0).1 = (q : Int)) (hb : (close ⟨(number s 58 0).2.r.drop q, (number s 58 0).2.b⟩ 44).b = true) :
    text s = ([], close ⟨(number s 58 0).2.r.drop q, (number s 58 0).2.b⟩ 44) := by
  have e : (number s 58 0).1.toNat = q := by omega
  unfold text; rw [if_neg h, e, if_pos hb]
theorem text_s {s : Rd} {q : Nat} (h : ¬ (((number s 58 0).2.r.length : Nat) : Int) < (number s 58 0).1) (hq : (number s 58 0).1 = (q : Int)) (hb : (close ⟨(number s 58 0).2.r.drop q, (number s 58 0).2.b⟩ 44).b = false) :
    text s = ((number s 58 0).2.r.take q, close ⟨(number s 58 0).2.r.drop q, (number s 58 0).2.b⟩ 44) := by
  have e : (number s 58 0).1.toNat = q := by omega
  unfold text; rw [if_neg h, e, if_neg (by rw [hb]; decide)]
end Wr
set_option maxRecDepth 20000 in
set_option maxHeartbeats 4000000 in
theorem rNum_v {w : World} {g : Nat} {s : Wr.Rd} (hG : Gr w) (hB : Blk w g 103 [strV s.r, .bool s.b].toArray) (hgq : 6 ≤ g) (hl : s.r.length ≤ 1000000000) : Calls Tryz.prog 54 [.pointer (some ⟨g, 0, none⟩)].toArray w (RdTo g (.int .i64 (Wr.num s).1) (Wr.num s).2 w) := by
  refine calls_start Tryz.func54 rfl rfl ?_
  intro az Hz
  rw [Tryz.ntmps54] at Hz
  refine wp_seq_k fun K1 hK1 => ?_
  -- wire.go:80
  refine wp_region_lit ?_
  refine L (r_as Hz rfl) Hz rfl ?_
  clear Hz az; intro az Hz
  refine hK1 _ _ ?_
  refine wp_seq_k fun K2 hK2 => ?_
  -- wire.go:80
  refine wp_region_lit ?_
  refine L (r_mv Hz rfl) Hz rfl ?_
  clear Hz az; intro az Hz
  have G3 := Gr.only hG (Only.refl (oneF g) w) (fun k hk => by rw [show k = g from hk]; exact hgq)
  refine LC Hz rfl rfl Tryz.call73 (number_v (s := s) G3 hB hgq (by omega) 59 rfl 0 (by unfold Wr.Ok; omega) (by omega)) rfl ?_
  rintro e w4 ⟨rfl, B5, o6⟩; refine ⟨_, rfl, ?_⟩
  clear Hz az; intro az Hz
  refine L (r_as Hz rfl) Hz rfl ?_
  clear Hz az; intro az Hz
  refine hK2 _ _ ?_
  refine wp_ret ?_
  show bodyPost _ _ _ .ret _ _
  refine ret_of (vs := [.int .i64 ((Wr.number s 59 0).1)]) Hz Tryz.results54 ⟨rfl, trivial⟩ ?_
  exact ⟨rfl, B5, (Only.trans (Only.refl (oneF g) w) o6 (fun _ h => .inl h))⟩

set_option maxRecDepth 20000 in
set_option maxHeartbeats 4000000 in
theorem rText_v {w : World} {g : Nat} {s : Wr.Rd} (hG : Gr w) (hB : Blk w g 103 [strV s.r, .bool s.b].toArray) (hgq : 6 ≤ g) (hl : s.r.length ≤ 1000000000) : Calls Tryz.prog 53 [.pointer (some ⟨g, 0, none⟩)].toArray w (RdTo g (strV (Wr.text s).1) (Wr.text s).2 w) := by
  refine calls_start Tryz.func53 rfl rfl ?_
  intro az Hz
  rw [Tryz.ntmps53] at Hz
  refine wp_seq_k fun K1 hK1 => ?_
  -- wire.go:86
  refine wp_region_lit ?_
  refine L (r_as Hz rfl) Hz rfl ?_
  clear Hz az; intro az Hz
  refine hK1 _ _ ?_
  refine wp_seq_k fun K2 hK2 => ?_
  -- wire.go:87
  refine wp_region_lit ?_
  refine L (r_mv Hz rfl) Hz rfl ?_
  clear Hz az; intro az Hz
  have G3 := Gr.only hG (Only.refl (oneF g) w) (fun k hk => by rw [show k = g from hk]; exact hgq)
  refine LC Hz rfl rfl Tryz.call73 (number_v (s := s) G3 hB hgq (by omega) 58 rfl 0 (by unfold Wr.Ok; omega) (by omega)) rfl ?_
  rintro e w4 ⟨rfl, B5, o6⟩; refine ⟨_, rfl, ?_⟩
  clear Hz az; intro az Hz
  refine L (r_as Hz rfl) Hz rfl ?_
  clear Hz az; intro az Hz
  refine hK2 _ _ ?_
  refine wp_seq_k fun K7 hK7 => ?_
  refine wp_seq_k fun K8 hK8 => ?_
  -- wire.go:88
  refine wp_region_lit ?_
  refine L (r_mv Hz rfl) Hz rfl ?_
  clear Hz az; intro az Hz
  refine L (r_mv Hz rfl) Hz rfl ?_
  clear Hz az; intro az Hz
  refine L (r_nilP Hz rfl) Hz rfl ?_
  clear Hz az; intro az Hz
  refine L (r_fa (m' := 0) Tryz.underlying103 rfl Tryz.sizeOf9 rfl Hz rfl rfl) Hz rfl ?_
  clear Hz az; intro az Hz
  refine L (r_ld Tryz.isAgg9 Hz rfl ((Blk.ca B5) 0 _ rfl)) Hz rfl ?_
  clear Hz az; intro az Hz
  refine L (r_lenS Tryz.underlying9 Hz rfl) Hz rfl ?_
  clear Hz az; intro az Hz
  refine L (r_gtI Hz rfl rfl) Hz rfl ?_
  clear Hz az; intro az Hz
  refine hK8 _ _ ?_
  refine br Hz rfl (fun hc9 => ?_) (fun hc9 => ?_)
  · -- if0
    have p10 := of_decide_eq_true hc9
    refine wp_seq_k fun K11 hK11 => ?_
    -- wire.go:89
    refine wp_region_lit ?_
    refine L (r_mv Hz rfl) Hz rfl ?_
    clear Hz az; intro az Hz
    refine LC Hz rfl rfl Tryz.call74 (fail_v (s := (Wr.number s 58 0).2) B5) rfl ?_
    rintro e w12 ⟨rfl, B13, o14⟩; refine ⟨_, rfl, ?_⟩
    clear Hz az; intro az Hz
    refine hK11 _ _ ?_
    refine wp_seq_k fun K15 hK15 => ?_
    -- wire.go:90
    refine wp_region_lit ?_
    refine L (r_as Hz rfl) Hz rfl ?_
    clear Hz az; intro az Hz
    refine hK15 _ _ ?_
    refine wp_ret ?_
    show bodyPost _ _ _ .ret _ _
    refine ret_of (vs := [strV ([])]) Hz Tryz.results53 ⟨rfl, trivial⟩ ?_
    rw [Wr.text_f1 (of_decide_eq_true hc9)]
    exact ⟨rfl, B13, (Only.trans (Only.trans (Only.refl (oneF g) w) o6 (fun _ h => .inl h)) o14 (fun _ h => .inl h))⟩
  · -- else0
    have p16 := of_decide_eq_false hc9
    refine wp_skip ?_
    refine hK7 _ _ ?_
    refine wp_seq_k fun K17 hK17 => ?_
    -- wire.go:92
    refine wp_region_lit ?_
    refine L (r_mv Hz rfl) Hz rfl ?_
    clear Hz az; intro az Hz
    refine L (r_nilP Hz rfl) Hz rfl ?_
    clear Hz az; intro az Hz
    refine L (r_fa (m' := 0) Tryz.underlying103 rfl Tryz.sizeOf9 rfl Hz rfl rfl) Hz rfl ?_
    clear Hz az; intro az Hz
    refine L (r_ld Tryz.isAgg9 Hz rfl ((Blk.ca B5) 0 _ rfl)) Hz rfl ?_
    clear Hz az; intro az Hz
    refine L (r_mv Hz rfl) Hz rfl ?_
    clear Hz az; intro az Hz
    obtain ⟨q, hq⟩ : ∃ q : Nat, (Wr.number s 58 0).1 = (q : Int) := ⟨((Wr.number s 58 0).1).toNat, by have := Wr.number_least s 58 0 (Int.le_refl _); omega⟩
    have le18 : q ≤ List.length ((Wr.number s 58 0).2.r) := by omega
    refine L (r_ssh (m := q) Tryz.underlying9 Hz rfl rfl hq le18) Hz rfl ?_
    clear Hz az; intro az Hz
    refine L (r_as Hz rfl) Hz rfl ?_
    clear Hz az; intro az Hz
    refine hK17 _ _ ?_
    refine wp_seq_k fun K19 hK19 => ?_
    -- wire.go:93
    refine wp_region_lit ?_
    refine L (r_mv Hz rfl) Hz rfl ?_
    clear Hz az; intro az Hz
    refine L (r_mv Hz rfl) Hz rfl ?_
    clear Hz az; intro az Hz
    refine L (r_nilP Hz rfl) Hz rfl ?_
    clear Hz az; intro az Hz
    refine L (r_fa (m' := 0) Tryz.underlying103 rfl Tryz.sizeOf9 rfl Hz rfl rfl) Hz rfl ?_
    clear Hz az; intro az Hz
    refine L (r_ld Tryz.isAgg9 Hz rfl ((Blk.ca B5) 0 _ rfl)) Hz rfl ?_
    clear Hz az; intro az Hz
    refine L (r_mv Hz rfl) Hz rfl ?_
    clear Hz az; intro az Hz
    have le20 : q ≤ List.length ((Wr.number s 58 0).2.r) := by omega
    refine L (r_ssl (lo := q) Tryz.underlying9 Hz rfl rfl hq le20) Hz rfl ?_
    clear Hz az; intro az Hz
    refine L (r_nilP Hz rfl) Hz rfl ?_
    clear Hz az; intro az Hz
    refine L (r_fa (m' := 0) Tryz.underlying103 rfl Tryz.sizeOf9 rfl Hz rfl rfl) Hz rfl ?_
    clear Hz az; intro az Hz
    refine LSt (cs' := [strV (List.drop q ((Wr.number s 58 0).2.r)), .bool ((Wr.number s 58 0).2.b)]) Tryz.sizeOf9 Hz rfl rfl rfl rfl rfl ⟨rfl, trivial⟩ B5 rfl rfl fun w21 s22 B23 => ?_
    refine hK19 _ _ ?_
    refine wp_seq_k fun K24 hK24 => ?_
    refine wp_seq_k fun K25 hK25 => ?_
    -- wire.go:94
    refine wp_region_lit ?_
    refine L (r_mv Hz rfl) Hz rfl ?_
    clear Hz az; intro az Hz
    refine LC Hz rfl rfl Tryz.call75 (close_v (s := (⟨List.drop q ((Wr.number s 58 0).2.r), (Wr.number s 58 0).2.b⟩ : Wr.Rd)) B23 44) rfl ?_
    rintro e w26 ⟨rfl, B27, o28⟩; refine ⟨_, rfl, ?_⟩
    clear Hz az; intro az Hz
    refine hK25 _ _ ?_
    refine wp_seq_k fun K29 hK29 => ?_
    -- wire.go:94
    refine wp_region_lit ?_
    refine L (r_mv Hz rfl) Hz rfl ?_
    clear Hz az; intro az Hz
    refine L (r_nilP Hz rfl) Hz rfl ?_
    clear Hz az; intro az Hz
    refine L (r_fa (m' := 1) Tryz.underlying103 rfl Tryz.sizeOf4 rfl Hz rfl rfl) Hz rfl ?_
    clear Hz az; intro az Hz
    refine L (r_ld Tryz.isAgg4 Hz rfl ((Blk.ca B27) 1 _ rfl)) Hz rfl ?_
    clear Hz az; intro az Hz
    refine hK29 _ _ ?_
    refine br Hz rfl (fun hc30 => ?_) (fun hc30 => ?_)
    · -- if1
      have q31 : (Wr.close (⟨List.drop q ((Wr.number s 58 0).2.r), (Wr.number s 58 0).2.b⟩ : Wr.Rd) 44).b = true := hc30
      refine wp_seq_k fun K32 hK32 => ?_
      -- wire.go:95
      refine wp_region_lit ?_
      refine L (r_as Hz rfl) Hz rfl ?_
      clear Hz az; intro az Hz
      refine hK32 _ _ ?_
      refine wp_ret ?_
      show bodyPost _ _ _ .ret _ _
      refine ret_of (vs := [strV ([])]) Hz Tryz.results53 ⟨rfl, trivial⟩ ?_
      rw [Wr.text_f2 (of_decide_eq_false hc9) hq hc30]
      exact ⟨rfl, B27, (Only.trans (Only.trans (Only.trans (Only.refl (oneF g) w) o6 (fun _ h => .inl h)) s22 (fun _ h => .inl h)) o28 (fun _ h => .inl h))⟩
    · -- else1
      have q33 : (Wr.close (⟨List.drop q ((Wr.number s 58 0).2.r), (Wr.number s 58 0).2.b⟩ : Wr.Rd) 44).b = false := hc30
      refine wp_skip ?_
      refine hK24 _ _ ?_
      refine wp_seq_k fun K34 hK34 => ?_
      -- wire.go:97
      refine wp_region_lit ?_
      refine L (r_mv Hz rfl) Hz rfl ?_
      clear Hz az; intro az Hz
      refine L (r_as Hz rfl) Hz rfl ?_
      clear Hz az; intro az Hz
      refine hK34 _ _ ?_
      refine wp_ret ?_
      show bodyPost _ _ _ .ret _ _
      refine ret_of (vs := [strV (List.take q ((Wr.number s 58 0).2.r))]) Hz Tryz.results53 ⟨rfl, trivial⟩ ?_
      rw [Wr.text_s (of_decide_eq_false hc9) hq hc30]
      exact ⟨rfl, B27, (Only.trans (Only.trans (Only.trans (Only.refl (oneF g) w) o6 (fun _ h => .inl h)) s22 (fun _ h => .inl h)) o28 (fun _ h => .inl h))⟩

set_option maxRecDepth 20000 in
set_option maxHeartbeats 4000000 in
theorem Open_v (w : World) (t : Str) : Calls Tryz.prog 52 [strV t].toArray w (OpenTo t w) := by
  refine calls_start Tryz.func52 rfl rfl ?_
  intro az Hz
  rw [Tryz.ntmps52] at Hz
  refine wp_seq_k fun K1 hK1 => ?_
  -- wire.go:49
  refine wp_region_lit ?_
  refine L (r_as Hz rfl) Hz rfl ?_
  clear Hz az; intro az Hz
  refine hK1 _ _ ?_
  refine wp_seq_k fun K2 hK2 => ?_
  -- wire.go:49
  refine wp_region_lit ?_
  refine L (r_mv Hz rfl) Hz rfl ?_
  clear Hz az; intro az Hz
  refine L (r_bd (v := .agg #[strV (t), .bool (false)]) (build_Rd _) Hz rfl) Hz rfl ?_
  clear Hz az; intro az Hz
  refine LBox Hz rfl rfl rfl ?_
  clear Hz az; intro g3 w4 hg7 hl8 o5 B6 az Hz
  refine L (r_as Hz rfl) Hz rfl ?_
  clear Hz az; intro az Hz
  refine hK2 _ _ ?_
  refine wp_ret ?_
  show bodyPost _ _ _ .ret _ _
  refine ret_of (vs := [.pointer (some ((⟨g3, 0, none⟩ : Addr)))]) Hz Tryz.results52 ⟨rfl, trivial⟩ ?_
  exact ⟨_, rfl, hg7, B6, o5⟩

set_option maxRecDepth 20000 in
set_option maxHeartbeats 4000000 in
theorem Int_v {w : World} (hG : Gr w) (n : Int) (hn : Wr.Ok n) : Calls Tryz.prog 80 [.int .i64 n].toArray w (Fix (strV (Wr.intE n)) w) := by
  refine calls_start Tryz.func80 rfl rfl ?_
  intro az Hz
  rw [Tryz.ntmps80] at Hz
  refine wp_seq_k fun K1 hK1 => ?_
  -- wire.go:21
  refine wp_region_lit ?_
  refine L (r_as Hz rfl) Hz rfl ?_
  clear Hz az; intro az Hz
  refine hK1 _ _ ?_
  refine wp_seq_k fun K2 hK2 => ?_
  -- wire.go:21
  refine wp_region_lit ?_
  refine L (r_mv Hz rfl) Hz rfl ?_
  clear Hz az; intro az Hz
  have G3 := Gr.k hG (Only.refl NoF w)
  refine LCV (v := strV (Lib.itoa n)) Hz rfl rfl Tryz.call79 (itoa_v G3 n hn) rfl fun w4 o5 => ?_
  clear Hz az; intro az Hz
  refine L (r_addS Hz rfl rfl (by simp only [List.length_append, List.length_cons, List.length_nil]; have hq := itoa_len n hn.1 hn.2; omega)) Hz rfl ?_
  clear Hz az; intro az Hz
  refine L (r_as Hz rfl) Hz rfl ?_
  clear Hz az; intro az Hz
  refine hK2 _ _ ?_
  refine wp_ret ?_
  show bodyPost _ _ _ .ret _ _
  refine ret_of (vs := [strV (Lib.itoa n ++ [59])]) Hz Tryz.results80 ⟨rfl, trivial⟩ ?_
  exact ⟨rfl, o5⟩

set_option maxRecDepth 20000 in
set_option maxHeartbeats 4000000 in
theorem Num_v {w : World} (hG : Gr w) (n : Int) (hn : Wr.Ok n) : Calls Tryz.prog 62 [.int .i64 n].toArray w (Fix (strV (Wr.numE n)) w) := by
  refine calls_start Tryz.func62 rfl rfl ?_
  intro az Hz
  rw [Tryz.ntmps62] at Hz
  refine wp_seq_k fun K1 hK1 => ?_
  -- wire.go:13
  refine wp_region_lit ?_
  refine L (r_as Hz rfl) Hz rfl ?_
  clear Hz az; intro az Hz
  refine hK1 _ _ ?_
  refine wp_seq_k fun K2 hK2 => ?_
  refine wp_seq_k fun K3 hK3 => ?_
  -- wire.go:14
  refine wp_region_lit ?_
  refine L (r_mv Hz rfl) Hz rfl ?_
  clear Hz az; intro az Hz
  refine L (r_ltI Hz rfl rfl) Hz rfl ?_
  clear Hz az; intro az Hz
  refine hK3 _ _ ?_
  refine br Hz rfl (fun hc4 => ?_) (fun hc4 => ?_)
  · -- if0
    have p5 := of_decide_eq_true hc4
    refine wp_seq_k fun K6 hK6 => ?_
    -- wire.go:15
    refine wp_region_lit ?_
    refine L (r_as Hz rfl) Hz rfl ?_
    clear Hz az; intro az Hz
    refine hK6 _ _ ?_
    refine wp_ret ?_
    show bodyPost _ _ _ .ret _ _
    refine ret_of (vs := [strV ([])]) Hz Tryz.results62 ⟨rfl, trivial⟩ ?_
    unfold Wr.numE; rw [if_pos (of_decide_eq_true hc4)]; exact ⟨rfl, (Only.refl NoF w)⟩
  · -- else0
    have p7 := of_decide_eq_false hc4
    refine wp_skip ?_
    refine hK2 _ _ ?_
    refine wp_seq_k fun K8 hK8 => ?_
    -- wire.go:17
    refine wp_region_lit ?_
    refine L (r_mv Hz rfl) Hz rfl ?_
    clear Hz az; intro az Hz
    have G9 := Gr.k hG (Only.refl NoF w)
    refine LCV (v := strV (Wr.intE n)) Hz rfl rfl Tryz.call80 (Int_v G9 n hn) rfl fun w10 o11 => ?_
    clear Hz az; intro az Hz
    refine L (r_as Hz rfl) Hz rfl ?_
    clear Hz az; intro az Hz
    refine hK8 _ _ ?_
    refine wp_ret ?_
    show bodyPost _ _ _ .ret _ _
    refine ret_of (vs := [strV (Wr.intE n)]) Hz Tryz.results62 ⟨rfl, trivial⟩ ?_
    unfold Wr.numE; rw [if_neg (of_decide_eq_false hc4)]; exact ⟨rfl, o11⟩

set_option maxRecDepth 20000 in
set_option maxHeartbeats 4000000 in
theorem Text_v {w : World} (hG : Gr w) (t : Str) (ht : t.length ≤ 1000000000) : Calls Tryz.prog 61 [strV t].toArray w (Fix (strV (Wr.textE t)) w) := by
  refine calls_start Tryz.func61 rfl rfl ?_
  intro az Hz
  rw [Tryz.ntmps61] at Hz
  refine wp_seq_k fun K1 hK1 => ?_
  -- wire.go:24
  refine wp_region_lit ?_
  refine L (r_as Hz rfl) Hz rfl ?_
  clear Hz az; intro az Hz
  refine hK1 _ _ ?_
  refine wp_seq_k fun K2 hK2 => ?_
  -- wire.go:24
  refine wp_region_lit ?_
  refine L (r_mv Hz rfl) Hz rfl ?_
  clear Hz az; intro az Hz
  refine L (r_lenS Tryz.underlying9 Hz rfl) Hz rfl ?_
  clear Hz az; intro az Hz
  have G3 := Gr.k hG (Only.refl NoF w)
  refine LCV (v := strV (Lib.itoa ((List.length (t) : Nat) : Int))) Hz rfl rfl Tryz.call79 (itoa_v G3 ((List.length (t) : Nat) : Int) (by unfold Wr.Ok; omega)) rfl fun w4 o5 => ?_
  clear Hz az; intro az Hz
  refine L (r_addS Hz rfl rfl (by simp only [List.length_append, List.length_cons, List.length_nil]; have hq := itoa_len ((t.length : Nat) : Int) (by omega) (by omega); omega)) Hz rfl ?_
  clear Hz az; intro az Hz
  refine L (r_mv Hz rfl) Hz rfl ?_
  clear Hz az; intro az Hz
  refine L (r_addS Hz rfl rfl (by simp only [List.length_append, List.length_cons, List.length_nil]; have hq := itoa_len ((t.length : Nat) : Int) (by omega) (by omega); omega)) Hz rfl ?_
  clear Hz az; intro az Hz
  refine L (r_addS Hz rfl rfl (by simp only [List.length_append, List.length_cons, List.length_nil]; have hq := itoa_len ((t.length : Nat) : Int) (by omega) (by omega); omega)) Hz rfl ?_
  clear Hz az; intro az Hz
  refine L (r_as Hz rfl) Hz rfl ?_
  clear Hz az; intro az Hz
  refine hK2 _ _ ?_
  refine wp_ret ?_
  show bodyPost _ _ _ .ret _ _
  refine ret_of (vs := [strV (Lib.itoa ((List.length (t) : Nat) : Int) ++ [58] ++ t ++ [44])]) Hz Tryz.results61 ⟨rfl, trivial⟩ ?_
  exact ⟨rfl, o5⟩
end Go.Proofs.YtlnadcihnfppaaaGreatDoor
