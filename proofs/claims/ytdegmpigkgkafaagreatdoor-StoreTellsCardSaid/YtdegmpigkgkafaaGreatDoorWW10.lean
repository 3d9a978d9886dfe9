/-
  The reference's reader: lists, walked. Condition: at most 1,000,000,000 bytes are left, and a reader that has failed has none.
-/
import Derived.Test.YtdegmpigkgkafaaGreatDoorWR
import Derived.Test.YtdegmpigkgkafaaGreatDoorWU
namespace Go.Proofs.YtdegmpigkgkafaaGreatDoor
set_option linter.unusedVariables false
set_option linter.unusedSimpArgs false
set_option linter.unusedSectionVars false
open Go.RowKit
theorem Wr.vend {i m : Nat} {b : Bool} (h : (decide ((i : Int) < (m : Int)) && (!b)) = false) : m - i = 0 ∨ b = true := by
 cases b
 · simp at h; omega
 · exact .inr rfl
theorem Wr.close_was {s : Rd} {c : UInt8} (hf : Fine s) (hb : s.b = true) : close s c = s := by
 have h := hf hb
 rw [close_bad c hf hb]
 cases s
 simp only at h hb
 rw [h, hb]; rfl
set_option maxRecDepth 20000 in
set_option maxHeartbeats 4000000 in
theorem vrNums_v {w : World} {g : Nat} {s : Wr.Rd} (hB : Blk w g 136 [strV s.r, .bool s.b].toArray) (hl : s.r.length ≤ 1000000000) (hfn : Wr.Fine s) : Calls Tryz.prog 97 [.pointer (some ⟨g, 0, none⟩)].toArray w (VListTo g KInt 3 (Wr.nums s).1 (Wr.nums s).2 w) := by
 unfold Wr.nums
 refine calls_start Tryz.func97 rfl rfl ?_
 intro az Z
 rw [Tryz.ntmps97] at Z
 refine wp_seq_k fun _ k1 => wp_region_lit ?_
 refine L (r_as Z rfl) Z rfl ?_; clear Z az; intro az Z
 refine k1 _ _ (wp_seq_k fun _ k2 => wp_region_lit ?_)
 refine L (r_mv Z rfl) Z rfl ?_; clear Z az; intro az Z
 refine LC Z rfl rfl Tryz.call118 (vnumber_v (s := s) hB 91 rfl) rfl ?_
 rintro e w3 ⟨rfl, B4, o5⟩; refine ⟨_, rfl, ?_⟩
 clear Z az; intro az Z
 refine L (r_as Z rfl) Z rfl ?_; clear Z az; intro az Z
 refine k2 _ _ (wp_seq_k fun _ k6 => wp_region_lit ?_)
 refine L (r_as Z rfl) Z rfl ?_; clear Z az; intro az Z
 refine k6 _ _ (wp_seq_k fun _ k7 => ?_)
 refine wp_seq_k fun _ k8 => wp_region_lit ?_
 refine L (r_as Z rfl) Z rfl ?_; clear Z az; intro az Z
 refine k8 _ _ ?_
 refine wp_block ?_
 obtain ⟨m0, hm0⟩ : ∃ q : Nat, (Wr.number s 91 0).1 = (q : Int) := ⟨((Wr.number s 91 0).1).toNat, by have := Wr.number_least s 91 0 (Int.le_refl _); omega⟩
 have hm0b := (Wr.number_int s 91 0).2; rw [hm0] at Z hm0b
 have hnl := Wr.number_len s 91 0; have hnf := Wr.number_fine 91 0 hfn
 refine wp_loop_m (fun mz az W => ∃ i : Nat, ∃ st : Wr.Rd, ∃ acc : List Int, ∃ Ao : Option Addr, ∃ co : Nat, mz = m0 - i ∧ Fr 35 [(0, .pointer (some ((⟨g, 0, none⟩ : Addr)))), (3, .int .i64 ((m0 : Int))), (5, .int .i64 ((i : Int))), (4, .slice Ao (acc.length) co)] az ∧ (i ≤ m0) ∧ (Wr.Fine st) ∧ (st.r.length ≤ s.r.length) ∧ (acc.length ≤ s.r.length + 1) ∧ (st.b = false → acc.length + st.r.length ≤ s.r.length) ∧ (Wr.items Wr.int m0 (Wr.number s 91 0).2 = (acc ++ (Wr.items Wr.int (m0 - i) st).1, (Wr.items Wr.int (m0 - i) st).2)) ∧ (∀ z ∈ acc, KInt.ok z) ∧ Only (oneF g) w W ∧ Blk W g 136 [strV (st.r), .bool (st.b)].toArray ∧ W.ownsRow w.heap.size 3 1 (.slice Ao acc.length co) acc.length (List.flatMap KInt.cells acc)) ?_ ?_
 ·
  exact ⟨_, 0, (Wr.number s 91 0).2, [], none, 0, rfl, Z.cut ⟨rfl, rfl, rfl, rfl, trivial⟩, Nat.zero_le _, hnf, (by omega), (by simp), (fun h => by simp only [List.length_nil]; omega), (by simp), (fun z hz => by cases hz), (Only.trans (Only.refl (oneF g) w) o5 (fun _ h => .inl h)), B4, (World.ownsRow_nil _ _ _ _)⟩
 clear Z az
 rintro mz az w9 ⟨i, st, acc, Ao, co, hm11, Z, hmm, hfs, hrl, hq1, hq2, hit, okO, o10, B12, rO⟩
 refine wp_seq_k fun _ k13 => ?_
 refine wp_seq_k fun _ k14 => wp_region_lit ?_
 refine L (r_mv Z rfl) Z rfl ?_; clear Z az; intro az Z
 refine L (r_mv Z rfl) Z rfl ?_; clear Z az; intro az Z
 refine L (r_ltI Z rfl rfl) Z rfl ?_; clear Z az; intro az Z
 refine L (r_mv Z rfl) Z rfl ?_; clear Z az; intro az Z
 refine LG Z rfl rfl gd_t (fun hb => r_mv Z rfl) rfl ?_; clear Z az; intro az Z
 refine LG Z rfl rfl gd_t (fun hb => r_nilP Z (evg hb rfl)) rfl ?_; clear Z az; intro az Z
 refine LG Z rfl rfl gd_t (fun hb => r_fa (m' := 1) Tryz.underlying136 rfl Tryz.sizeOf4 rfl Z (evg hb rfl) rfl) rfl ?_; clear Z az; intro az Z
 refine LG Z rfl rfl gd_t (fun hb => r_ld Tryz.isAgg4 Z (evg hb rfl) ((Blk.ca B12) 1 _ rfl)) rfl ?_; clear Z az; intro az Z
 refine LG Z rfl rfl gd_t (fun hb => r_not Z (evg hb rfl)) rfl ?_; clear Z az; intro az Z
 refine L (r_and Z rfl rfl rfl) Z rfl ?_; clear Z az; intro az Z
 refine k14 _ _ ?_
 refine br Z rfl (fun hc15 => ?_) (fun hc15 => ?_)
 ·
  have p16 := of_decide_eq_true (and_t hc15).1
  have q17 : st.b = false := (nt_t (and_t hc15).2)
  refine wp_skip ?_
  refine k13 _ _ (wp_seq_k fun _ k18 => ?_)
  refine wp_block ?_
  refine wp_region_lit ?_
  refine L (r_mv Z rfl) Z rfl ?_; clear Z az; intro az Z
  refine L (r_mv Z rfl) Z rfl ?_; clear Z az; intro az Z
  refine LC Z rfl rfl Tryz.call121 (vrInt_v (s := st) B12) rfl ?_
  rintro e w19 ⟨rfl, B20, o21⟩; refine ⟨_, rfl, ?_⟩
  clear Z az; intro az Z
  obtain ⟨A22, w23, hw, hA, r24, o25⟩ := Row.made (w := w19) KInt (e := 3) ([(Wr.int st).1] : List Int) (by simp only [List.length_cons, List.length_nil]; unfold maxLen; omega)
  refine L (r_bs (z := .int .i64 (0)) (size := 1) (vs := [(0, .int .i64 ((Wr.int st).1))]) (cs := List.flatMap KInt.cells [(Wr.int st).1]) Tryz.underlying37 Tryz.sizeOf3 Tryz.zeroValue3 rfl (Fr.evalps Z rfl) (by kernel_rfl)) Z rfl ?_
  rw [← hw, ← hA]; clear Z az; intro az Z
  clear hw hA
  have ok26 : ∀ zq ∈ ([(Wr.int st).1] : List Int), KInt.ok zq := by intro zq hx; simp only [List.mem_cons, List.not_mem_nil, or_false] at hx; rcases hx with rfl <;> first | exact (ok_wr (Wr.number_int _ _ _))
  have r27 := (ow_k (ow_only rO o21 (fun k hk => ge_F (oneF_lt (Blk.lt hB)) (Nat.le_refl _) k (ownF_ge rO k hk))) o25)
  have h28 := Row.own KInt r24 ok26
  have h29 := SliceOf.pl h28
  have hb37 : (List.length (acc) + List.length ([(Wr.int st).1])) * 8 ≤ 140737488355328 := by have := hq1; simp only [List.length_cons, List.length_nil]; omega
  have O38 := (Only.trans (Only.trans (Only.trans (Only.refl (fun _ => True) w) o10 (fun _ _ => .inl trivial)) o21 (fun _ _ => .inl trivial)) o25 (fun _ _ => .inl trivial))
  obtain ⟨A30, c31, w32, hr33, r34, o35, al36⟩ := Row.app (P := Tryz.prog) (l := acc) (l2 := [(Wr.int st).1]) KInt elemInt r27 h29 hb37 (by unfold maxLen; omega) (size_only O38)
  refine L (r_app hr33 Z rfl rfl) Z rfl ?_; clear Z az; intro az Z
  have ok39 : ∀ zq ∈ (acc ++ [(Wr.int st).1]), KInt.ok zq := (fun x hx => (List.mem_append.1 hx).elim (okO x) ((Row.oks KInt h29) x))
  have h40 := Row.own KInt r34 ok39
  refine L (r_as Z rfl) Z rfl ?_; clear Z az; intro az Z
  refine k18 _ _ ?_
  refine wp_region_lit ?_
  refine L (r_mv Z rfl) Z rfl ?_; clear Z az; intro az Z
  have i41 : I64 (((i : Int) + 1)) := by unfold I64; omega
  refine L (r_addI (r := ((i : Int) + 1)) Z rfl rfl rfl i41) Z rfl ?_; clear Z az; intro az Z
  refine L (r_as Z rfl) Z rfl ?_; clear Z az; intro az Z
  have hol := Wr.int_len st; have hof := Wr.int_fine hfs
  have hsb : st.b = false := nt_t (and_t hc15).2
  have hac := hq2 hsb
  have B42 := (Blk.only (Blk.k B20 o25) o35 (ow_nb r27 (Blk.k B20 o25) (by decide)))
  exact ⟨_, (by omega), i + 1, (Wr.int st).2, _, A30, c31, rfl, Z.cut ⟨rfl, rfl, rfl, rfl, trivial⟩, (by omega), hof, (by omega), (by rw [List.length_append, List.length_singleton]; omega), (fun h => by rw [List.length_append, List.length_singleton]; have := hol.2 h; omega), (by rw [hit, Wr.items_step Wr.int (show 0 < m0 - i by omega) hsb, show m0 - i - 1 = m0 - (i + 1) by omega]), ok39, (Only.trans (Only.trans (Only.trans (Only.trans (Only.refl (oneF g) w) o10 (fun _ h => .inl h)) o21 (fun _ h => .inl h)) o25 (fun _ h => h.elim)) o35 (fun k h => .inr (Nat.le_trans (Nat.le_refl _) ((ownF_ge rO) k h)))), B42, (ow_low r34 (Nat.le_refl _))⟩
 ·
  have d43 := hc15
  refine wp_exit ?_
  refine th_exit ?_
  refine th_exit ?_
  refine ib_hit ?_
  refine k7 _ _ (wp_seq_k fun _ k44 => ?_)
  refine wp_seq_k fun _ k45 => wp_region_lit ?_
  refine L (r_mv Z rfl) Z rfl ?_; clear Z az; intro az Z
  refine L (r_nilP Z rfl) Z rfl ?_; clear Z az; intro az Z
  refine L (r_fa (m' := 1) Tryz.underlying136 rfl Tryz.sizeOf4 rfl Z rfl rfl) Z rfl ?_; clear Z az; intro az Z
  refine L (r_ld Tryz.isAgg4 Z rfl ((Blk.ca B12) 1 _ rfl)) Z rfl ?_; clear Z az; intro az Z
  rcases tf (st.b) with hsp46 | hsp46
  · rw [hsp46] at Z
    have hsp := hsp46
    refine L (r_mv Z rfl) Z rfl ?_; clear Z az; intro az Z
    refine LT Z rfl rfl (r_mv Z rfl) rfl ?_; clear Z az; intro az Z
    refine LCT Z rfl rfl rfl rfl Tryz.call120 (vclose_v (s := st) B12 93 rfl) rfl ?_
    rintro e w47 ⟨rfl, B48, o49⟩; refine ⟨_, rfl, ?_⟩
    clear Z az; intro az Z
    refine LT Z rfl rfl (r_not Z rfl) rfl ?_; clear Z az; intro az Z
    refine L (r_pick Z rfl rfl rfl) Z rfl ?_; clear Z az; intro az Z
    refine k45 _ _ ?_
    refine br Z rfl (fun hc50 => ?_) (fun hc50 => ?_)
    ·
     have q51 : Wr.closeB st 93 = false := (nt_t hc50)
     refine wp_seq_k fun _ k52 => wp_region_lit ?_
     refine L (r_as Z rfl) Z rfl ?_; clear Z az; intro az Z
     refine k52 _ _ ?_
     refine wp_ret ?_
     show bodyPost _ _ _ .ret _ _
     refine ret_of (vs := [.slice none (0) 0]) Z Tryz.results97 ⟨rfl, trivial⟩ ?_
     have hie : Wr.items Wr.int (m0 - i) st = ([], st) := Wr.items_end Wr.int (Wr.vend hc15)
     rw [hie, List.append_nil] at hit
     have hcl := Wr.closeB_f (nt_t hc50)
     rw [show Wr.list Wr.int s = ([], Wr.close st 93) from Wr.list_bad hm0 hit (by rw [hcl]; rfl)]
     exact ⟨none, 0, rfl, World.ownsRow_nil _ _ _ _, (fun z hz => by cases hz), B48, (Only.trans (Only.trans (Only.refl (oneF g) w) o10 (fun _ h => .inl h)) o49 (fun _ h => .inl h))⟩
    ·
     have q53 : Wr.closeB st 93 = true := (nt_f hc50)
     refine wp_skip ?_
     refine k44 _ _ (wp_seq_k fun _ k54 => wp_region_lit ?_)
     refine L (r_mv Z rfl) Z rfl ?_; clear Z az; intro az Z
     refine L (r_as Z rfl) Z rfl ?_; clear Z az; intro az Z
     refine k54 _ _ ?_
     refine wp_ret ?_
     show bodyPost _ _ _ .ret _ _
     refine ret_of (vs := [.slice Ao (acc.length) co]) Z Tryz.results97 ⟨rfl, trivial⟩ ?_
     have hie : Wr.items Wr.int (m0 - i) st = ([], st) := Wr.items_end Wr.int (Wr.vend hc15)
     rw [hie, List.append_nil] at hit
     have hcl := Wr.closeB_t (nt_f hc50)
     rw [show Wr.list Wr.int s = (acc, Wr.close st 93) from Wr.list_ok hm0 hit (by rw [hcl]; exact hsp)]
     have r55 := (ow_only rO o49 (fun k hk => ge_F (oneF_lt (Blk.lt hB)) (Nat.le_refl _) k (ownF_ge rO k hk)))
     exact ⟨_, _, rfl, (ow_low r55 (Nat.le_refl _)), okO, B48, (Only.trans (Only.trans (Only.refl (oneF g) w) o10 (fun _ h => .inl h)) o49 (fun _ h => .inl h))⟩
  · rw [hsp46] at Z
    have hsp := hsp46
    refine L (r_mv Z rfl) Z rfl ?_; clear Z az; intro az Z
    refine LF Z rfl rfl rfl rfl ?_; clear Z az; intro az Z
    refine LF Z rfl rfl rfl rfl ?_; clear Z az; intro az Z
    refine LF Z rfl rfl rfl rfl ?_; clear Z az; intro az Z
    refine L (r_pick Z rfl rfl rfl) Z rfl ?_; clear Z az; intro az Z
    refine k45 _ _ ?_
    refine br_true Z rfl ?_
    refine wp_seq_k fun _ k56 => wp_region_lit ?_
    refine L (r_as Z rfl) Z rfl ?_; clear Z az; intro az Z
    refine k56 _ _ ?_
    refine wp_ret ?_
    show bodyPost _ _ _ .ret _ _
    refine ret_of (vs := [.slice none (0) 0]) Z Tryz.results97 ⟨rfl, trivial⟩ ?_
    have hie : Wr.items Wr.int (m0 - i) st = ([], st) := Wr.items_end Wr.int (Wr.vend hc15)
    rw [hie, List.append_nil] at hit
    have hcl : Wr.close st 93 = st := Wr.close_was hfs hsp
    rw [show Wr.list Wr.int s = ([], Wr.close st 93) from Wr.list_bad hm0 hit (by rw [hcl]; exact hsp), hcl]
    exact ⟨none, 0, rfl, World.ownsRow_nil _ _ _ _, (fun z hz => by cases hz), B12, (Only.trans (Only.refl (oneF g) w) o10 (fun _ h => .inl h))⟩
end Go.Proofs.YtdegmpigkgkafaaGreatDoor
