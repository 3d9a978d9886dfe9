/-
  The wire: the reader's calls but for lists, Open, the encodings but for lists, walked. Condition: at most 1,000,000 bytes.
-/
import Derived.Test.YtdegmpigkgkafaaGreatDoorWW1
namespace Go.Proofs.YtdegmpigkgkafaaGreatDoor
set_option maxHeartbeats 4000000
set_option maxRecDepth 20000
set_option linter.unusedVariables false
set_option linter.unusedSimpArgs false
set_option linter.unusedSectionVars false
open Go.RowKit
theorem build_Rd (t : Str) (w : World) : (Instr.build 146 #[(0, strV t)]).run Tryz.prog w = .ok (.agg #[strV t, .bool false]) w := by kernel_rfl
def OpenTo (t : Str) (w : World) (e : Ending) (w' : World) : Prop := ∃ g, e = .returned (.pointer (some ⟨g, 0, none⟩)) ∧ w.heap.size ≤ g ∧ Blk w' g 146 [strV t, .bool false].toArray ∧ Only NoF w w'
namespace Wr
theorem text_f1 {s : Rd} (h : (((number s 58 0).2.r.length : Nat) : Int) < (number s 58 0).1) : text s = ([], failed) := by
 unfold text; rw [if_pos h]
theorem text_f2 {s : Rd} {q : Nat} (h : ¬ (((number s 58 0).2.r.length : Nat) : Int) < (number s 58 0).1) (hq : (number s 58 0).1 = (q : Int)) (hb : (close ⟨(number s 58 0).2.r.drop q, (number s 58 0).2.b⟩ 44).b = true) :
 text s = ([], close ⟨(number s 58 0).2.r.drop q, (number s 58 0).2.b⟩ 44) := by
 have e : (number s 58 0).1.toNat = q := by omega
 unfold text; rw [if_neg h, e, if_pos hb]
theorem text_s {s : Rd} {q : Nat} (h : ¬ (((number s 58 0).2.r.length : Nat) : Int) < (number s 58 0).1) (hq : (number s 58 0).1 = (q : Int)) (hb : (close ⟨(number s 58 0).2.r.drop q, (number s 58 0).2.b⟩ 44).b = false) :
 text s = ((number s 58 0).2.r.take q, close ⟨(number s 58 0).2.r.drop q, (number s 58 0).2.b⟩ 44) := by
 have e : (number s 58 0).1.toNat = q := by omega
 unfold text; rw [if_neg h, e, if_neg (by rw [hb]; decide)]
end Wr
theorem rNum_v {w : World} {g : Nat} {s : Wr.Rd} (hG : Gr w) (hB : Blk w g 146 [strV s.r, .bool s.b].toArray) (hgq : 6 ≤ g) (hl : s.r.length ≤ 1000000000) : Calls Tryz.prog 83 [.pointer (some ⟨g, 0, none⟩)].toArray w (RdTo g (.int .i64 (Wr.num s).1) (Wr.num s).2 w) := by
 refine calls_start Tryz.func83 rfl rfl ?_
 intro az Z
 rw [Tryz.ntmps83] at Z
 refine wp_seq_k fun _ k1 => wp_region_lit ?_
 refine L (r_as Z rfl) Z rfl ?_; clear Z az; intro az Z
 refine k1 _ _ (wp_seq_k fun _ k2 => wp_region_lit ?_)
 refine L (r_mv Z rfl) Z rfl ?_; clear Z az; intro az Z
 have G3 := Gr.only hG (Only.refl (oneF g) w) (fun k hk => by rw [show k = g from hk]; exact hgq)
 refine LC Z rfl rfl Tryz.call113 (number_v (s := s) G3 hB hgq (by omega) 59 rfl 0 (by unfold Wr.Ok; omega) (by omega)) rfl ?_
 rintro e w4 ⟨rfl, B5, o6⟩; refine ⟨_, rfl, ?_⟩
 clear Z az; intro az Z
 refine L (r_as Z rfl) Z rfl ?_; clear Z az; intro az Z
 refine k2 _ _ ?_
 refine wp_ret ?_
 show bodyPost _ _ _ .ret _ _
 refine ret_of (vs := [.int .i64 ((Wr.number s 59 0).1)]) Z Tryz.results83 ⟨rfl, trivial⟩ ?_
 exact ⟨rfl, B5, (Only.trans (Only.refl (oneF g) w) o6 (fun _ h => .inl h))⟩
theorem rInt_v {w : World} {g : Nat} {s : Wr.Rd} (hG : Gr w) (hB : Blk w g 146 [strV s.r, .bool s.b].toArray) (hgq : 6 ≤ g) (hl : s.r.length ≤ 1000000000) : Calls Tryz.prog 117 [.pointer (some ⟨g, 0, none⟩)].toArray w (RdTo g (.int .i64 (Wr.int s).1) (Wr.int s).2 w) := by
 refine calls_start Tryz.func117 rfl rfl ?_
 intro az Z
 rw [Tryz.ntmps117] at Z
 refine wp_seq_k fun _ k1 => wp_region_lit ?_
 refine L (r_as Z rfl) Z rfl ?_; clear Z az; intro az Z
 refine k1 _ _ (wp_seq_k fun _ k2 => wp_region_lit ?_)
 refine L (r_mv Z rfl) Z rfl ?_; clear Z az; intro az Z
 have G3 := Gr.only hG (Only.refl (oneF g) w) (fun k hk => by rw [show k = g from hk]; exact hgq)
 refine LC Z rfl rfl Tryz.call113 (number_v (s := s) G3 hB hgq (by omega) 59 rfl (-9223372036854775808) (by unfold Wr.Ok; omega) (by omega)) rfl ?_
 rintro e w4 ⟨rfl, B5, o6⟩; refine ⟨_, rfl, ?_⟩
 clear Z az; intro az Z
 refine L (r_as Z rfl) Z rfl ?_; clear Z az; intro az Z
 refine k2 _ _ ?_
 refine wp_ret ?_
 show bodyPost _ _ _ .ret _ _
 refine ret_of (vs := [.int .i64 ((Wr.number s 59 (-9223372036854775808)).1)]) Z Tryz.results117 ⟨rfl, trivial⟩ ?_
 exact ⟨rfl, B5, (Only.trans (Only.refl (oneF g) w) o6 (fun _ h => .inl h))⟩
theorem rText_v {w : World} {g : Nat} {s : Wr.Rd} (hG : Gr w) (hB : Blk w g 146 [strV s.r, .bool s.b].toArray) (hgq : 6 ≤ g) (hl : s.r.length ≤ 1000000000) : Calls Tryz.prog 82 [.pointer (some ⟨g, 0, none⟩)].toArray w (RdTo g (strV (Wr.text s).1) (Wr.text s).2 w) := by
 refine calls_start Tryz.func82 rfl rfl ?_
 intro az Z
 rw [Tryz.ntmps82] at Z
 refine wp_seq_k fun _ k1 => wp_region_lit ?_
 refine L (r_as Z rfl) Z rfl ?_; clear Z az; intro az Z
 refine k1 _ _ (wp_seq_k fun _ k2 => wp_region_lit ?_)
 refine L (r_mv Z rfl) Z rfl ?_; clear Z az; intro az Z
 have G3 := Gr.only hG (Only.refl (oneF g) w) (fun k hk => by rw [show k = g from hk]; exact hgq)
 refine LC Z rfl rfl Tryz.call113 (number_v (s := s) G3 hB hgq (by omega) 58 rfl 0 (by unfold Wr.Ok; omega) (by omega)) rfl ?_
 rintro e w4 ⟨rfl, B5, o6⟩; refine ⟨_, rfl, ?_⟩
 clear Z az; intro az Z
 refine L (r_as Z rfl) Z rfl ?_; clear Z az; intro az Z
 refine k2 _ _ (wp_seq_k fun _ k7 => ?_)
 refine wp_seq_k fun _ k8 => wp_region_lit ?_
 refine L (r_mv Z rfl) Z rfl ?_; clear Z az; intro az Z
 refine L (r_mv Z rfl) Z rfl ?_; clear Z az; intro az Z
 refine L (r_nilP Z rfl) Z rfl ?_; clear Z az; intro az Z
 refine L (r_fa (m' := 0) Tryz.underlying146 rfl Tryz.sizeOf9 rfl Z rfl rfl) Z rfl ?_; clear Z az; intro az Z
 refine L (r_ld Tryz.isAgg9 Z rfl ((Blk.ca B5) 0 _ rfl)) Z rfl ?_; clear Z az; intro az Z
 refine L (r_lenS Tryz.underlying9 Z rfl) Z rfl ?_; clear Z az; intro az Z
 refine L (r_gtI Z rfl rfl) Z rfl ?_; clear Z az; intro az Z
 refine k8 _ _ ?_
 refine br Z rfl (fun hc9 => ?_) (fun hc9 => ?_)
 ·
  have p10 := of_decide_eq_true hc9
  refine wp_seq_k fun _ k11 => wp_region_lit ?_
  refine L (r_mv Z rfl) Z rfl ?_; clear Z az; intro az Z
  refine LC Z rfl rfl Tryz.call114 (fail_v (s := (Wr.number s 58 0).2) B5) rfl ?_
  rintro e w12 ⟨rfl, B13, o14⟩; refine ⟨_, rfl, ?_⟩
  clear Z az; intro az Z
  refine k11 _ _ (wp_seq_k fun _ k15 => wp_region_lit ?_)
  refine L (r_as Z rfl) Z rfl ?_; clear Z az; intro az Z
  refine k15 _ _ ?_
  refine wp_ret ?_
  show bodyPost _ _ _ .ret _ _
  refine ret_of (vs := [strV ([])]) Z Tryz.results82 ⟨rfl, trivial⟩ ?_
  rw [Wr.text_f1 (of_decide_eq_true hc9)]
  exact ⟨rfl, B13, (Only.trans (Only.trans (Only.refl (oneF g) w) o6 (fun _ h => .inl h)) o14 (fun _ h => .inl h))⟩
 ·
  have p16 := of_decide_eq_false hc9
  refine wp_skip ?_
  refine k7 _ _ (wp_seq_k fun _ k17 => wp_region_lit ?_)
  refine L (r_mv Z rfl) Z rfl ?_; clear Z az; intro az Z
  refine L (r_nilP Z rfl) Z rfl ?_; clear Z az; intro az Z
  refine L (r_fa (m' := 0) Tryz.underlying146 rfl Tryz.sizeOf9 rfl Z rfl rfl) Z rfl ?_; clear Z az; intro az Z
  refine L (r_ld Tryz.isAgg9 Z rfl ((Blk.ca B5) 0 _ rfl)) Z rfl ?_; clear Z az; intro az Z
  refine L (r_mv Z rfl) Z rfl ?_; clear Z az; intro az Z
  obtain ⟨q, hq⟩ : ∃ q : Nat, (Wr.number s 58 0).1 = (q : Int) := ⟨((Wr.number s 58 0).1).toNat, by have := Wr.number_least s 58 0 (Int.le_refl _); omega⟩
  have le18 : q ≤ List.length ((Wr.number s 58 0).2.r) := by omega
  refine L (r_ssh (m := q) Tryz.underlying9 Z rfl rfl hq le18) Z rfl ?_; clear Z az; intro az Z
  refine L (r_as Z rfl) Z rfl ?_; clear Z az; intro az Z
  refine k17 _ _ (wp_seq_k fun _ k19 => wp_region_lit ?_)
  refine L (r_mv Z rfl) Z rfl ?_; clear Z az; intro az Z
  refine L (r_mv Z rfl) Z rfl ?_; clear Z az; intro az Z
  refine L (r_nilP Z rfl) Z rfl ?_; clear Z az; intro az Z
  refine L (r_fa (m' := 0) Tryz.underlying146 rfl Tryz.sizeOf9 rfl Z rfl rfl) Z rfl ?_; clear Z az; intro az Z
  refine L (r_ld Tryz.isAgg9 Z rfl ((Blk.ca B5) 0 _ rfl)) Z rfl ?_; clear Z az; intro az Z
  refine L (r_mv Z rfl) Z rfl ?_; clear Z az; intro az Z
  have le20 : q ≤ List.length ((Wr.number s 58 0).2.r) := by omega
  refine L (r_ssl (lo := q) Tryz.underlying9 Z rfl rfl hq le20) Z rfl ?_; clear Z az; intro az Z
  refine L (r_nilP Z rfl) Z rfl ?_; clear Z az; intro az Z
  refine L (r_fa (m' := 0) Tryz.underlying146 rfl Tryz.sizeOf9 rfl Z rfl rfl) Z rfl ?_; clear Z az; intro az Z
  refine LSt (cs' := [strV (List.drop q ((Wr.number s 58 0).2.r)), .bool ((Wr.number s 58 0).2.b)]) Tryz.sizeOf9 Z rfl rfl rfl rfl rfl ⟨rfl, trivial⟩ B5 rfl rfl fun w21 s22 B23 => ?_
  refine k19 _ _ (wp_seq_k fun _ k24 => ?_)
  refine wp_seq_k fun _ k25 => wp_region_lit ?_
  refine L (r_mv Z rfl) Z rfl ?_; clear Z az; intro az Z
  refine LC Z rfl rfl Tryz.call115 (close_v (s := (⟨List.drop q ((Wr.number s 58 0).2.r), (Wr.number s 58 0).2.b⟩ : Wr.Rd)) B23 44) rfl ?_
  rintro e w26 ⟨rfl, B27, o28⟩; refine ⟨_, rfl, ?_⟩
  clear Z az; intro az Z
  refine k25 _ _ (wp_seq_k fun _ k29 => wp_region_lit ?_)
  refine L (r_mv Z rfl) Z rfl ?_; clear Z az; intro az Z
  refine L (r_nilP Z rfl) Z rfl ?_; clear Z az; intro az Z
  refine L (r_fa (m' := 1) Tryz.underlying146 rfl Tryz.sizeOf4 rfl Z rfl rfl) Z rfl ?_; clear Z az; intro az Z
  refine L (r_ld Tryz.isAgg4 Z rfl ((Blk.ca B27) 1 _ rfl)) Z rfl ?_; clear Z az; intro az Z
  refine k29 _ _ ?_
  refine br Z rfl (fun hc30 => ?_) (fun hc30 => ?_)
  ·
   have q31 : (Wr.close (⟨List.drop q ((Wr.number s 58 0).2.r), (Wr.number s 58 0).2.b⟩ : Wr.Rd) 44).b = true := hc30
   refine wp_seq_k fun _ k32 => wp_region_lit ?_
   refine L (r_as Z rfl) Z rfl ?_; clear Z az; intro az Z
   refine k32 _ _ ?_
   refine wp_ret ?_
   show bodyPost _ _ _ .ret _ _
   refine ret_of (vs := [strV ([])]) Z Tryz.results82 ⟨rfl, trivial⟩ ?_
   rw [Wr.text_f2 (of_decide_eq_false hc9) hq hc30]
   exact ⟨rfl, B27, (Only.trans (Only.trans (Only.trans (Only.refl (oneF g) w) o6 (fun _ h => .inl h)) s22 (fun _ h => .inl h)) o28 (fun _ h => .inl h))⟩
  ·
   have q33 : (Wr.close (⟨List.drop q ((Wr.number s 58 0).2.r), (Wr.number s 58 0).2.b⟩ : Wr.Rd) 44).b = false := hc30
   refine wp_skip ?_
   refine k24 _ _ (wp_seq_k fun _ k34 => wp_region_lit ?_)
   refine L (r_mv Z rfl) Z rfl ?_; clear Z az; intro az Z
   refine L (r_as Z rfl) Z rfl ?_; clear Z az; intro az Z
   refine k34 _ _ ?_
   refine wp_ret ?_
   show bodyPost _ _ _ .ret _ _
   refine ret_of (vs := [strV (List.take q ((Wr.number s 58 0).2.r))]) Z Tryz.results82 ⟨rfl, trivial⟩ ?_
   rw [Wr.text_s (of_decide_eq_false hc9) hq hc30]
   exact ⟨rfl, B27, (Only.trans (Only.trans (Only.trans (Only.refl (oneF g) w) o6 (fun _ h => .inl h)) s22 (fun _ h => .inl h)) o28 (fun _ h => .inl h))⟩
theorem rDone_v {w : World} {g : Nat} {s : Wr.Rd} (hB : Blk w g 146 [strV s.r, .bool s.b].toArray) : Calls Tryz.prog 86 [.pointer (some ⟨g, 0, none⟩)].toArray w (Fix (.bool (Wr.done s)) w) := by
 refine calls_start Tryz.func86 rfl rfl ?_
 intro az Z
 rw [Tryz.ntmps86] at Z
 refine wp_seq_k fun _ k1 => wp_region_lit ?_
 refine L (r_as Z rfl) Z rfl ?_; clear Z az; intro az Z
 refine k1 _ _ (wp_seq_k fun _ k2 => wp_region_lit ?_)
 refine L (r_mv Z rfl) Z rfl ?_; clear Z az; intro az Z
 refine L (r_nilP Z rfl) Z rfl ?_; clear Z az; intro az Z
 refine L (r_fa (m' := 1) Tryz.underlying146 rfl Tryz.sizeOf4 rfl Z rfl rfl) Z rfl ?_; clear Z az; intro az Z
 refine L (r_ld Tryz.isAgg4 Z rfl ((Blk.ca hB) 1 _ rfl)) Z rfl ?_; clear Z az; intro az Z
 refine L (r_not Z rfl) Z rfl ?_; clear Z az; intro az Z
 refine L (r_mv Z rfl) Z rfl ?_; clear Z az; intro az Z
 refine LG Z rfl rfl gd_t (fun hb => r_mv Z rfl) rfl ?_; clear Z az; intro az Z
 refine LG Z rfl rfl gd_t (fun hb => r_nilP Z (evg hb rfl)) rfl ?_; clear Z az; intro az Z
 refine LG Z rfl rfl gd_t (fun hb => r_fa (m' := 0) Tryz.underlying146 rfl Tryz.sizeOf9 rfl Z (evg hb rfl) rfl) rfl ?_; clear Z az; intro az Z
 refine LG Z rfl rfl gd_t (fun hb => r_ld Tryz.isAgg9 Z (evg hb rfl) ((Blk.ca hB) 0 _ rfl)) rfl ?_; clear Z az; intro az Z
 refine LG Z rfl rfl gd_t (fun hb => r_eqS Z (evg hb rfl) rfl) rfl ?_; clear Z az; intro az Z
 refine L (r_and Z rfl rfl rfl) Z rfl ?_; clear Z az; intro az Z
 refine L (r_as Z rfl) Z rfl ?_; clear Z az; intro az Z
 refine k2 _ _ ?_
 refine wp_ret ?_
 show bodyPost _ _ _ .ret _ _
 refine ret_of (vs := [.bool (((!s.b) && (decide (s.r = []))))]) Z Tryz.results86 ⟨rfl, trivial⟩ ?_
 exact ⟨rfl, (Only.refl NoF w)⟩
theorem Open_v (w : World) (t : Str) : Calls Tryz.prog 81 [strV t].toArray w (OpenTo t w) := by
 refine calls_start Tryz.func81 rfl rfl ?_
 intro az Z
 rw [Tryz.ntmps81] at Z
 refine wp_seq_k fun _ k1 => wp_region_lit ?_
 refine L (r_as Z rfl) Z rfl ?_; clear Z az; intro az Z
 refine k1 _ _ (wp_seq_k fun _ k2 => wp_region_lit ?_)
 refine L (r_mv Z rfl) Z rfl ?_; clear Z az; intro az Z
 refine L (r_bd (v := .agg #[strV (t), .bool (false)]) (build_Rd _) Z rfl) Z rfl ?_; clear Z az; intro az Z
 refine LBox Z rfl rfl rfl ?_
 clear Z az; intro g3 w4 hg7 hl8 o5 B6 az Z
 refine L (r_as Z rfl) Z rfl ?_; clear Z az; intro az Z
 refine k2 _ _ ?_
 refine wp_ret ?_
 show bodyPost _ _ _ .ret _ _
 refine ret_of (vs := [.pointer (some ((⟨g3, 0, none⟩ : Addr)))]) Z Tryz.results81 ⟨rfl, trivial⟩ ?_
 exact ⟨_, rfl, hg7, B6, o5⟩
theorem Int_v {w : World} (hG : Gr w) (n : Int) (hn : Wr.Ok n) : Calls Tryz.prog 101 [.int .i64 n].toArray w (Fix (strV (Wr.intE n)) w) := by
 refine calls_start Tryz.func101 rfl rfl ?_
 intro az Z
 rw [Tryz.ntmps101] at Z
 refine wp_seq_k fun _ k1 => wp_region_lit ?_
 refine L (r_as Z rfl) Z rfl ?_; clear Z az; intro az Z
 refine k1 _ _ (wp_seq_k fun _ k2 => wp_region_lit ?_)
 refine L (r_mv Z rfl) Z rfl ?_; clear Z az; intro az Z
 have G3 := Gr.k hG (Only.refl NoF w)
 refine LCV (v := strV (Lib.itoa n)) Z rfl rfl Tryz.call103 (itoa_v G3 n hn) rfl fun w4 o5 => ?_; clear Z az; intro az Z
 refine L (r_addS Z rfl rfl (by simp only [List.length_append, List.length_cons, List.length_nil]; have hq := itoa_len n hn.1 hn.2; omega)) Z rfl ?_; clear Z az; intro az Z
 refine L (r_as Z rfl) Z rfl ?_; clear Z az; intro az Z
 refine k2 _ _ ?_
 refine wp_ret ?_
 show bodyPost _ _ _ .ret _ _
 refine ret_of (vs := [strV (Lib.itoa n ++ [59])]) Z Tryz.results101 ⟨rfl, trivial⟩ ?_
 exact ⟨rfl, o5⟩
theorem Num_v {w : World} (hG : Gr w) (n : Int) (hn : Wr.Ok n) : Calls Tryz.prog 67 [.int .i64 n].toArray w (Fix (strV (Wr.numE n)) w) := by
 refine calls_start Tryz.func67 rfl rfl ?_
 intro az Z
 rw [Tryz.ntmps67] at Z
 refine wp_seq_k fun _ k1 => wp_region_lit ?_
 refine L (r_as Z rfl) Z rfl ?_; clear Z az; intro az Z
 refine k1 _ _ (wp_seq_k fun _ k2 => ?_)
 refine wp_seq_k fun _ k3 => wp_region_lit ?_
 refine L (r_mv Z rfl) Z rfl ?_; clear Z az; intro az Z
 refine L (r_ltI Z rfl rfl) Z rfl ?_; clear Z az; intro az Z
 refine k3 _ _ ?_
 refine br Z rfl (fun hc4 => ?_) (fun hc4 => ?_)
 ·
  have p5 := of_decide_eq_true hc4
  refine wp_seq_k fun _ k6 => wp_region_lit ?_
  refine L (r_as Z rfl) Z rfl ?_; clear Z az; intro az Z
  refine k6 _ _ ?_
  refine wp_ret ?_
  show bodyPost _ _ _ .ret _ _
  refine ret_of (vs := [strV ([])]) Z Tryz.results67 ⟨rfl, trivial⟩ ?_
  unfold Wr.numE; rw [if_pos (of_decide_eq_true hc4)]; exact ⟨rfl, (Only.refl NoF w)⟩
 ·
  have p7 := of_decide_eq_false hc4
  refine wp_skip ?_
  refine k2 _ _ (wp_seq_k fun _ k8 => wp_region_lit ?_)
  refine L (r_mv Z rfl) Z rfl ?_; clear Z az; intro az Z
  have G9 := Gr.k hG (Only.refl NoF w)
  refine LCV (v := strV (Wr.intE n)) Z rfl rfl Tryz.call101 (Int_v G9 n hn) rfl fun w10 o11 => ?_; clear Z az; intro az Z
  refine L (r_as Z rfl) Z rfl ?_; clear Z az; intro az Z
  refine k8 _ _ ?_
  refine wp_ret ?_
  show bodyPost _ _ _ .ret _ _
  refine ret_of (vs := [strV (Wr.intE n)]) Z Tryz.results67 ⟨rfl, trivial⟩ ?_
  unfold Wr.numE; rw [if_neg (of_decide_eq_false hc4)]; exact ⟨rfl, o11⟩
theorem Text_v {w : World} (hG : Gr w) (t : Str) (ht : t.length ≤ 1000000000) : Calls Tryz.prog 69 [strV t].toArray w (Fix (strV (Wr.textE t)) w) := by
 refine calls_start Tryz.func69 rfl rfl ?_
 intro az Z
 rw [Tryz.ntmps69] at Z
 refine wp_seq_k fun _ k1 => wp_region_lit ?_
 refine L (r_as Z rfl) Z rfl ?_; clear Z az; intro az Z
 refine k1 _ _ (wp_seq_k fun _ k2 => wp_region_lit ?_)
 refine L (r_mv Z rfl) Z rfl ?_; clear Z az; intro az Z
 refine L (r_lenS Tryz.underlying9 Z rfl) Z rfl ?_; clear Z az; intro az Z
 have G3 := Gr.k hG (Only.refl NoF w)
 refine LCV (v := strV (Lib.itoa ((List.length (t) : Nat) : Int))) Z rfl rfl Tryz.call103 (itoa_v G3 ((List.length (t) : Nat) : Int) (by unfold Wr.Ok; omega)) rfl fun w4 o5 => ?_; clear Z az; intro az Z
 refine L (r_addS Z rfl rfl (by simp only [List.length_append, List.length_cons, List.length_nil]; have hq := itoa_len ((t.length : Nat) : Int) (by omega) (by omega); omega)) Z rfl ?_; clear Z az; intro az Z
 refine L (r_mv Z rfl) Z rfl ?_; clear Z az; intro az Z
 refine L (r_addS Z rfl rfl (by simp only [List.length_append, List.length_cons, List.length_nil]; have hq := itoa_len ((t.length : Nat) : Int) (by omega) (by omega); omega)) Z rfl ?_; clear Z az; intro az Z
 refine L (r_addS Z rfl rfl (by simp only [List.length_append, List.length_cons, List.length_nil]; have hq := itoa_len ((t.length : Nat) : Int) (by omega) (by omega); omega)) Z rfl ?_; clear Z az; intro az Z
 refine L (r_as Z rfl) Z rfl ?_; clear Z az; intro az Z
 refine k2 _ _ ?_
 refine wp_ret ?_
 show bodyPost _ _ _ .ret _ _
 refine ret_of (vs := [strV (Lib.itoa ((List.length (t) : Nat) : Int) ++ [58] ++ t ++ [44])]) Z Tryz.results69 ⟨rfl, trivial⟩ ?_
 exact ⟨rfl, o5⟩
end Go.Proofs.YtdegmpigkgkafaaGreatDoor
