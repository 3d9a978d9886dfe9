/-
  The wire's reader: lists, walked. Condition: at most 1,000,000 bytes are left, and a reader that has failed has none.
  The wire's laws: kind, number, small, walked. No condition but the listed variables.
  The wire's values (of the law side): in memory, their encodings, what reads them. Condition of the bounds: those of 'few'.
  The wire's laws: few, write, SameNums, SameTexts, equal, walked. Condition of the bounds: those of 'few'.
-/
import Derived.Test.YtdcbjedkddgfkaaGreatDoorWX
namespace Go.Proofs.YtdcbjedkddgfkaaGreatDoor
set_option linter.unusedVariables false
set_option linter.unusedSimpArgs false
set_option linter.unusedSectionVars false
section
open Go.RowKit
def ListTo {α : Type} (g : Nat) (K : Row α) (e : TypeId) (l : List α) (s : Wr.Rd) (w : World) (x : Ending) (w' : World) : Prop :=
 ∃ A c, x = .returned (.slice A l.length c) ∧ w'.ownsRow w.heap.size e 1 (.slice A l.length c) l.length (l.flatMap K.cells) ∧ (∀ z ∈ l, K.ok z) ∧ Blk w' g 152 [strV s.r, .bool s.b].toArray ∧ Only (oneF g) w w'
theorem text_ok {s : Wr.Rd} (h : s.r.length ≤ 1000000000) : (Wr.text s).1.length ≤ maxLen := by
 have := Wr.text_val_len s
 unfold maxLen; omega
set_option maxRecDepth 20000 in
set_option maxHeartbeats 4000000 in
theorem itemsI_v {w : World} {g : Nat} {s : Wr.Rd} (hG : Gr w) (hB : Blk w g 152 [strV s.r, .bool s.b].toArray) (hgq : 6 ≤ g) (hl : s.r.length ≤ 1000000000) (hfn : Wr.Fine s) : Calls Tryz.prog 111 [.pointer (some ⟨g, 0, none⟩), .func (.func 112) [.pointer (some ⟨g, 0, none⟩)].toArray #[]].toArray w (ListTo g KInt 3 (Wr.list Wr.int s).1 (Wr.list Wr.int s).2 w) := by
 refine calls_start Tryz.func111 rfl rfl ?_
 intro az Z
 rw [Tryz.ntmps111] at Z
 refine wp_seq_k fun K1 hK1 => wp_region_lit ?_
 refine L (r_as Z rfl) Z rfl ?_; clear Z az; intro az Z
 refine hK1 _ _ (wp_seq_k fun K2 hK2 => wp_region_lit ?_)
 refine L (r_as Z rfl) Z rfl ?_; clear Z az; intro az Z
 refine hK2 _ _ (wp_seq_k fun K3 hK3 => ?_)
 refine wp_seq_k fun K4 hK4 => wp_region_lit ?_
 refine L (r_mv Z rfl) Z rfl ?_; clear Z az; intro az Z
 have G5 := Gr.only hG (Only.refl (oneF g) w) (fun k hk => by rw [show k = g from hk]; exact hgq)
 refine LC Z rfl rfl Tryz.call110 (number_v (s := s) G5 hB hgq (by omega) 91 rfl 0 (by unfold Wr.Ok; omega) (by omega)) rfl ?_
 rintro e w6 ⟨rfl, B7, o8⟩; refine ⟨_, rfl, ?_⟩
 clear Z az; intro az Z
 refine L (r_as Z rfl) Z rfl ?_; clear Z az; intro az Z
 refine hK4 _ _ ?_
 refine wp_block ?_
 obtain ⟨m0, hm0⟩ : ∃ q : Nat, (Wr.number s 91 0).1 = (q : Int) := ⟨((Wr.number s 91 0).1).toNat, by have := Wr.number_least s 91 0 (Int.le_refl _); omega⟩
 have hm0b := (Wr.number_int s 91 0).2; rw [hm0] at Z hm0b
 have hnl := Wr.number_len s 91 0; have hnf := Wr.number_fine 91 0 hfn
 refine wp_loop_m (fun mz az W => ∃ m : Nat, ∃ st : Wr.Rd, ∃ acc : List Int, ∃ Ao : Option Addr, ∃ co : Nat, mz = m ∧ Fr 32 [(0, .pointer (some ((⟨g, 0, none⟩ : Addr)))), (1, .func (.func 112) [.pointer (some (⟨g, 0, none⟩ : Addr))].toArray #[]), (6, .int .i64 ((m : Int))), (5, .slice Ao (acc.length) co)] az ∧ (m ≤ m0) ∧ (Wr.Fine st) ∧ (st.r.length ≤ s.r.length) ∧ (acc.length ≤ s.r.length + 1) ∧ (st.b = false → acc.length + st.r.length ≤ s.r.length) ∧ (Wr.items Wr.int m0 (Wr.number s 91 0).2 = (acc ++ (Wr.items Wr.int m st).1, (Wr.items Wr.int m st).2)) ∧ (∀ z ∈ acc, KInt.ok z) ∧ Only (oneF g) w W ∧ Blk W g 152 [strV (st.r), .bool (st.b)].toArray ∧ W.ownsRow w.heap.size 3 1 (.slice Ao acc.length co) acc.length (List.flatMap KInt.cells acc)) ?_ ?_
 ·
  exact ⟨_, m0, (Wr.number s 91 0).2, [], none, 0, rfl, Z.cut ⟨rfl, rfl, rfl, rfl, trivial⟩, Nat.le_refl _, hnf, (by omega), (by simp), (fun h => by simp only [List.length_nil]; omega), (by simp), (fun z hz => by cases hz), (Only.trans (Only.refl (oneF g) w) o8 (fun _ h => .inl h)), B7, (World.ownsRow_nil _ _ _ _)⟩
 clear Z az
 rintro mz az w9 ⟨m, st, acc, Ao, co, hm11, Z, hmm, hfs, hrl, hq1, hq2, hit, okO, o10, B12, rO⟩
 refine wp_seq_k fun K13 hK13 => ?_
 refine wp_seq_k fun K14 hK14 => wp_region_lit ?_
 refine L (r_mv Z rfl) Z rfl ?_; clear Z az; intro az Z
 refine L (r_gtI Z rfl rfl) Z rfl ?_; clear Z az; intro az Z
 refine L (r_mv Z rfl) Z rfl ?_; clear Z az; intro az Z
 refine LG Z rfl rfl gd_t (fun hb => r_mv Z rfl) rfl ?_; clear Z az; intro az Z
 refine LG Z rfl rfl gd_t (fun hb => r_nilP Z (evg hb rfl)) rfl ?_; clear Z az; intro az Z
 refine LG Z rfl rfl gd_t (fun hb => r_fa (m' := 1) Tryz.underlying152 rfl Tryz.sizeOf4 rfl Z (evg hb rfl) rfl) rfl ?_; clear Z az; intro az Z
 refine LG Z rfl rfl gd_t (fun hb => r_ld Tryz.isAgg4 Z (evg hb rfl) ((Blk.ca B12) 1 _ rfl)) rfl ?_; clear Z az; intro az Z
 refine LG Z rfl rfl gd_t (fun hb => r_not Z (evg hb rfl)) rfl ?_; clear Z az; intro az Z
 refine L (r_and Z rfl rfl rfl) Z rfl ?_; clear Z az; intro az Z
 refine hK14 _ _ ?_
 refine br Z rfl (fun hc15 => ?_) (fun hc15 => ?_)
 ·
  have p16 := of_decide_eq_true (and_t hc15).1
  have q17 : st.b = false := (nt_t (and_t hc15).2)
  refine wp_skip ?_
  refine hK13 _ _ (wp_seq_k fun K18 hK18 => ?_)
  refine wp_block ?_
  refine wp_region_lit ?_
  refine L (r_mv Z rfl) Z rfl ?_; clear Z az; intro az Z
  refine L (r_mv Z rfl) Z rfl ?_; clear Z az; intro az Z
  have G19 := Gr.only hG (Only.trans (Only.refl (oneF g) w) o10 (fun _ h => .inl h)) (fun k hk => by rw [show k = g from hk]; exact hgq)
  refine LCB Z rfl rfl Tryz.call112 (rInt_v (s := st) G19 B12 hgq (by omega)) rfl ?_
  rintro e w20 ⟨rfl, B21, o22⟩; refine ⟨_, rfl, ?_⟩
  clear Z az; intro az Z
  obtain ⟨A23, w24, hw, hA, r25, o26⟩ := Row.made (w := w20) KInt (e := 3) ([(Wr.int st).1] : List Int) (by simp only [List.length_cons, List.length_nil]; unfold maxLen; omega)
  refine L (r_bs (z := .int .i64 (0)) (size := 1) (vs := [(0, .int .i64 ((Wr.int st).1))]) (cs := List.flatMap KInt.cells [(Wr.int st).1]) Tryz.underlying30 Tryz.sizeOf3 Tryz.zeroValue3 rfl (Fr.evalps Z rfl) (by kernel_rfl)) Z rfl ?_
  rw [← hw, ← hA]; clear Z az; intro az Z
  clear hw hA
  have ok27 : ∀ zq ∈ ([(Wr.int st).1] : List Int), KInt.ok zq := by intro zq hx; simp only [List.mem_cons, List.not_mem_nil, or_false] at hx; rcases hx with rfl <;> first | exact ok_wr (Wr.number_int _ _ _)
  have r28 := (ow_k (ow_only rO o22 (fun k hk => ge_F (oneF_lt (Blk.lt hB)) (Nat.le_refl _) k (ownF_ge rO k hk))) o26)
  have h29 := Row.own KInt r25 ok27
  have h30 := SliceOf.pl h29
  have hb38 : (List.length (acc) + List.length ([(Wr.int st).1])) * 8 ≤ 140737488355328 := by have := hq1; simp only [List.length_cons, List.length_nil]; omega
  have O39 := (Only.trans (Only.trans (Only.trans (Only.refl (fun _ => True) w) o10 (fun _ _ => .inl trivial)) o22 (fun _ _ => .inl trivial)) o26 (fun _ _ => .inl trivial))
  obtain ⟨A31, c32, w33, hr34, r35, o36, al37⟩ := Row.app (P := Tryz.prog) (l := acc) (l2 := [(Wr.int st).1]) KInt elemInt r28 h30 hb38 (by unfold maxLen; omega) (size_only O39)
  refine L (r_app hr34 Z rfl rfl) Z rfl ?_; clear Z az; intro az Z
  have ok40 : ∀ zq ∈ (acc ++ [(Wr.int st).1]), KInt.ok zq := (fun x hx => (List.mem_append.1 hx).elim (okO x) ((Row.oks KInt h30) x))
  have h41 := Row.own KInt r35 ok40
  refine L (r_as Z rfl) Z rfl ?_; clear Z az; intro az Z
  refine hK18 _ _ ?_
  refine wp_region_lit ?_
  refine L (r_mv Z rfl) Z rfl ?_; clear Z az; intro az Z
  have i42 : I64 (((m : Int) - 1)) := by unfold I64; omega
  refine L (r_subI (r := ((m : Int) - 1)) Z rfl rfl rfl i42) Z rfl ?_; clear Z az; intro az Z
  refine L (r_as Z rfl) Z rfl ?_; clear Z az; intro az Z
  have hm1 : ((m : Int) - 1) = ((m - 1 : Nat) : Int) := by omega
  rw [hm1] at Z
  have hol := Wr.int_len st; have hof := Wr.int_fine hfs
  have hsb : st.b = false := nt_t (and_t hc15).2
  have hac := hq2 hsb
  have B43 := (Blk.only (Blk.k B21 o26) o36 (ow_nb r28 (Blk.k B21 o26) (by decide)))
  exact ⟨_, (by omega), m - 1, (Wr.int st).2, _, A31, c32, rfl, Z.cut ⟨rfl, rfl, rfl, rfl, trivial⟩, (by omega), hof, (by omega), (by rw [List.length_append, List.length_singleton]; omega), (fun h => by rw [List.length_append, List.length_singleton]; have := hol.2 h; omega), (by rw [hit]; exact Wr.items_step Wr.int (by omega) hsb), ok40, (Only.trans (Only.trans (Only.trans (Only.trans (Only.refl (oneF g) w) o10 (fun _ h => .inl h)) o22 (fun _ h => .inl h)) o26 (fun _ h => h.elim)) o36 (fun k h => .inr (Nat.le_trans (Nat.le_refl _) ((ownF_ge rO) k h)))), B43, (ow_low r35 (Nat.le_refl _))⟩
 ·
  have d44 := hc15
  refine wp_exit ?_
  refine th_exit ?_
  refine th_exit ?_
  refine ib_hit ?_
  refine hK3 _ _ (wp_seq_k fun K45 hK45 => ?_)
  refine wp_seq_k fun K46 hK46 => wp_region_lit ?_
  refine L (r_mv Z rfl) Z rfl ?_; clear Z az; intro az Z
  refine LC Z rfl rfl Tryz.call114 (close_v (s := st) B12 93) rfl ?_
  rintro e w47 ⟨rfl, B48, o49⟩; refine ⟨_, rfl, ?_⟩
  clear Z az; intro az Z
  refine hK46 _ _ (wp_seq_k fun K50 hK50 => wp_region_lit ?_)
  refine L (r_mv Z rfl) Z rfl ?_; clear Z az; intro az Z
  refine L (r_nilP Z rfl) Z rfl ?_; clear Z az; intro az Z
  refine L (r_fa (m' := 1) Tryz.underlying152 rfl Tryz.sizeOf4 rfl Z rfl rfl) Z rfl ?_; clear Z az; intro az Z
  refine L (r_ld Tryz.isAgg4 Z rfl ((Blk.ca B48) 1 _ rfl)) Z rfl ?_; clear Z az; intro az Z
  refine hK50 _ _ ?_
  refine br Z rfl (fun hc51 => ?_) (fun hc51 => ?_)
  ·
   have q52 : (Wr.close st 93).b = true := hc51
   refine wp_seq_k fun K53 hK53 => wp_region_lit ?_
   refine L (r_as Z rfl) Z rfl ?_; clear Z az; intro az Z
   refine hK53 _ _ ?_
   refine wp_ret ?_
   show bodyPost _ _ _ .ret _ _
   refine ret_of (vs := [.slice none (0) 0]) Z Tryz.results111 ⟨rfl, trivial⟩ ?_
   have hie : Wr.items Wr.int m st = ([], st) := Wr.items_end Wr.int (Wr.end_or hc15)
   rw [hie, List.append_nil] at hit
   rw [show Wr.list Wr.int s = ([], Wr.close st 93) from Wr.list_bad hm0 hit hc51]
   exact ⟨none, 0, rfl, World.ownsRow_nil _ _ _ _, (fun z hz => by cases hz), B48, (Only.trans (Only.trans (Only.refl (oneF g) w) o10 (fun _ h => .inl h)) o49 (fun _ h => .inl h))⟩
  ·
   have q54 : (Wr.close st 93).b = false := hc51
   refine wp_skip ?_
   refine hK45 _ _ (wp_seq_k fun K55 hK55 => wp_region_lit ?_)
   refine L (r_mv Z rfl) Z rfl ?_; clear Z az; intro az Z
   refine L (r_as Z rfl) Z rfl ?_; clear Z az; intro az Z
   refine hK55 _ _ ?_
   refine wp_ret ?_
   show bodyPost _ _ _ .ret _ _
   refine ret_of (vs := [.slice Ao (acc.length) co]) Z Tryz.results111 ⟨rfl, trivial⟩ ?_
   have hie : Wr.items Wr.int m st = ([], st) := Wr.items_end Wr.int (Wr.end_or hc15)
   rw [hie, List.append_nil] at hit
   rw [show Wr.list Wr.int s = (acc, Wr.close st 93) from Wr.list_ok hm0 hit hc51]
   have r56 := (ow_only rO o49 (fun k hk => ge_F (oneF_lt (Blk.lt hB)) (Nat.le_refl _) k (ownF_ge rO k hk)))
   exact ⟨_, _, rfl, (ow_low r56 (Nat.le_refl _)), okO, B48, (Only.trans (Only.trans (Only.refl (oneF g) w) o10 (fun _ h => .inl h)) o49 (fun _ h => .inl h))⟩
set_option maxRecDepth 20000 in
set_option maxHeartbeats 4000000 in
theorem rNums_v {w : World} {g : Nat} {s : Wr.Rd} (hG : Gr w) (hB : Blk w g 152 [strV s.r, .bool s.b].toArray) (hgq : 6 ≤ g) (hl : s.r.length ≤ 1000000000) (hfn : Wr.Fine s) : Calls Tryz.prog 84 [.pointer (some ⟨g, 0, none⟩)].toArray w (ListTo g KInt 3 (Wr.nums s).1 (Wr.nums s).2 w) := by
 refine calls_start Tryz.func84 rfl rfl ?_
 intro az Z
 rw [Tryz.ntmps84] at Z
 refine wp_seq_k fun K1 hK1 => wp_region_lit ?_
 refine L (r_as Z rfl) Z rfl ?_; clear Z az; intro az Z
 refine hK1 _ _ (wp_seq_k fun K2 hK2 => wp_region_lit ?_)
 refine L (r_mv Z rfl) Z rfl ?_; clear Z az; intro az Z
 refine L (r_mv Z rfl) Z rfl ?_; clear Z az; intro az Z
 refine L (r_mf (vs := [.pointer (some ((⟨g, 0, none⟩ : Addr)))]) Z rfl) Z rfl ?_; clear Z az; intro az Z
 have G10 := Gr.only hG (Only.refl (oneF g) w) (fun k hk => by rw [show k = g from hk]; exact hgq)
 refine LC Z rfl rfl Tryz.call111 (itemsI_v G10 hB hgq hl hfn) rfl ?_
 rintro e w3 ⟨A6, c7, rfl, r8, k9, B4, o5⟩; refine ⟨_, rfl, ?_⟩
 clear Z az; intro az Z
 refine L (r_as Z rfl) Z rfl ?_; clear Z az; intro az Z
 refine hK2 _ _ ?_
 refine wp_ret ?_
 show bodyPost _ _ _ .ret _ _
 refine ret_of (vs := [.slice A6 ((Wr.list Wr.int s).1.length) c7]) Z Tryz.results84 ⟨rfl, trivial⟩ ?_
 exact ⟨_, _, rfl, (ow_low r8 (Nat.le_refl _)), k9, B4, (Only.trans (Only.refl (oneF g) w) o5 (fun _ h => .inl h))⟩
end
section
open Go.RowKit
section
variable {P : Program} {w : World} {n : Nat} {l : List (Nat × Value)} {a : Act} {dst : Option Tmp} {ty : TypeId} {pos : String} {aft : Array Edge} {g : Option (Nat × Bool)} {x y : Operand}
end
theorem fix_eq {P : Program} {f : FuncId} {vs : Array Value} {v v' : Value} {w : World} (h : v = v') (hc : Calls P f vs w (Fix v w)) : Calls P f vs w (Fix v' w) := h ▸ hc
end
section
open Go.RowKit
/-! ### written and read -/
theorem flat_len_le {α : Type} (f : α → Str) (b : Nat) : ∀ l : List α, (∀ x ∈ l, (f x).length ≤ b) → (l.flatMap f).length ≤ l.length * b
 | [], _ => by simp
 | x :: l, h => by
  have h1 := h x (by simp)
  have ih := flat_len_le f b l fun y hy => h y (by simp [hy])
  rw [List.flatMap_cons, List.length_append, List.length_cons, Nat.succ_mul]
  omega
end
section
open Go.RowKit
theorem same_step {α : Type} [DecidableEq α] {l l2 : List α} {k : Nat} {x y : α} (h1 : l[k]? = some x) (h2 : l2[k]? = some y) (h : l.take k = l2.take k) (he : (!decide (x = y)) = false) : l.take (k + 1) = l2.take (k + 1) := by
 rw [take_succ_get h1, take_succ_get h2, h, of_decide_eq_true (nt_f he)]
theorem same_ne {α : Type} [DecidableEq α] {l l2 : List α} {k : Nat} {x y : α} (h1 : l[k]? = some x) (h2 : l2[k]? = some y) (he : (!decide (x = y)) = true) : l ≠ l2 := by
 intro h
 rw [h, h2] at h1
 exact of_decide_eq_false (nt_t he) (Option.some.inj h1).symm
end
end Go.Proofs.YtdcbjedkddgfkaaGreatDoor
