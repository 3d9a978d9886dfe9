/-
  Gossip: the comparison of notes, walked. Condition: the listed variables; right notes.
-/
import Derived.Test.YtdcbjedkddgfkaaGreatDoorGoP
import Derived.Test.YtdcbjedkddgfkaaGreatDoorSt0
import Derived.Test.YtdcbjedkddgfkaaGreatDoorVq
namespace Go.Proofs.YtdcbjedkddgfkaaGreatDoor
set_option maxHeartbeats 4000000
set_option maxRecDepth 20000
set_option linter.unusedVariables false
set_option linter.unusedSimpArgs false
set_option linter.unusedSectionVars false
open Go.RowKit
theorem less_cb : ∀ s t : Str, Op.bytesLess s t = decide (Lib.compareBytes s t < 0)
 | [], [] => by simp [Op.bytesLess, Lib.compareBytes]
 | _ :: _, [] => by simp [Op.bytesLess, Lib.compareBytes]
 | [], _ :: _ => by simp [Op.bytesLess, Lib.compareBytes]
 | a :: s, b :: t => by
  unfold Op.bytesLess Lib.compareBytes
  rcases u8_tri a b with h | h | h
  · rw [if_pos h, decide_eq_true h]; rfl
  · have h2 : ¬ a < b := fun h2 => UInt8.lt_asymm h h2
    have h3 : ¬ a = b := fun e => by subst e; exact UInt8.lt_irrefl a h
    rw [if_neg h2, if_pos h, decide_eq_false h2]
    simp [h3]
  · subst h
    rw [if_neg (UInt8.lt_irrefl a), if_neg (UInt8.lt_irrefl a), decide_eq_false (UInt8.lt_irrefl a), less_cb s t]
    simp
section
variable {P : Program} {w : World} {n : Nat} {l : List (Nat × Value)} {a : Act} {dst : Option Tmp} {ty : TypeId} {pos : String} {aft : Array Edge} {g : Option (Nat × Bool)} {x y : Operand} {s s' : Str} {t yt : TypeId}
theorem r_ltS (H : Fr n l a) (hx : ev l x = some (strV s)) (hy : ev l y = some (strV s')) : (execOp a.eval ⟨dst, .binOp .lss t x y yt, ty, pos, aft, g⟩).run P w = .ok (.value (.bool (decide (Lib.compareBytes s s' < 0)))) w := by
 rw [← less_cb]
 simp [execOp, H.eval hx, H.eval hy, eqGuard, binOp, Op.stringOp, toList_strV]
theorem gt_cb (s s' : Str) : (!(Op.bytesLess s s' || s == s')) = decide (0 < Lib.compareBytes s s') := by
 rw [less_cb]
 by_cases h : s = s'
 · subst h; simp [cb_refl]
 · have h0 : Lib.compareBytes s s' ≠ 0 := fun e => h (cb_eq e)
   simp only [beq_eq_false_iff_ne.2 h, Bool.or_false]
   by_cases h1 : Lib.compareBytes s s' < 0
   · rw [decide_eq_true h1, decide_eq_false (by omega)]; rfl
   · rw [decide_eq_false h1, decide_eq_true (by omega)]; rfl
theorem r_gtS (H : Fr n l a) (hx : ev l x = some (strV s)) (hy : ev l y = some (strV s')) : (execOp a.eval ⟨dst, .binOp .gtr t x y yt, ty, pos, aft, g⟩).run P w = .ok (.value (.bool (decide (0 < Lib.compareBytes s s')))) w := by
 rw [← gt_cb]
 simp [execOp, H.eval hx, H.eval hy, eqGuard, binOp, Op.stringOp, toList_strV]
end
section
variable {x y : Int}
theorem ci_t (h : decide (x < y) = true) : Lib.compareInt x y = -1 := by unfold Lib.compareInt; rw [if_pos (of_decide_eq_true h)]
theorem ci_ft (h : decide (x < y) = false) (h2 : decide (y < x) = true) : Lib.compareInt x y = 1 := by unfold Lib.compareInt; rw [if_neg (of_decide_eq_false h), if_pos (of_decide_eq_true h2)]
theorem ci_ff (h : decide (x < y) = false) (h2 : decide (y < x) = false) : Lib.compareInt x y = 0 := by unfold Lib.compareInt; rw [if_neg (of_decide_eq_false h), if_neg (of_decide_eq_false h2)]
theorem ci_ok (x y : Int) : I64 (Lib.compareInt x y) := by rcases ci_cases x y with ⟨_, h⟩ | ⟨_, h⟩ | ⟨_, h⟩ <;> rw [h] <;> (unfold I64; omega)
end
theorem cb_val : ∀ s t : Str, Lib.compareBytes s t = -1 ∨ Lib.compareBytes s t = 0 ∨ Lib.compareBytes s t = 1
 | [], [] => .inr (.inl rfl)
 | _ :: _, [] => .inr (.inr rfl)
 | [], _ :: _ => .inl rfl
 | a :: s, b :: t => by
  unfold Lib.compareBytes
  split
  · exact .inl rfl
  · split
    · exact .inr (.inr rfl)
    · exact cb_val s t
section
variable {x y : Str}
theorem cs_t (h : decide (Lib.compareBytes x y < 0) = true) : Lib.compareBytes x y = -1 := by have := of_decide_eq_true h; rcases cb_val x y with h | h | h <;> omega
theorem cs_ft (h : decide (Lib.compareBytes x y < 0) = false) (h2 : decide (0 < Lib.compareBytes x y) = true) : Lib.compareBytes x y = 1 := by have := of_decide_eq_true h2; rcases cb_val x y with h | h | h <;> omega
theorem cs_ff (h : decide (Lib.compareBytes x y < 0) = false) (h2 : decide (0 < Lib.compareBytes x y) = false) : Lib.compareBytes x y = 0 := by have := of_decide_eq_false h; have := of_decide_eq_false h2; omega
end
def orI : List Int → Int
 | [] => 0
 | x :: l => if x ≠ 0 then x else orI l
section
variable {l : List Int} {k : Nat} {x : Int}
theorem or_hit (hm : l[k]? = some x) (h : (!decide (x = 0)) = true) : orI (l.drop k) = x := by
 obtain ⟨hk, rfl⟩ := List.getElem?_eq_some_iff.1 hm
 rw [List.drop_eq_getElem_cons hk]
 exact if_pos (of_decide_eq_false (nt_t h))
theorem or_step (hm : l[k]? = some x) (hz : orI l = orI (l.drop k)) (h : (!decide (x = 0)) = false) : orI l = orI (l.drop (k + 1)) := by
 obtain ⟨hk, rfl⟩ := List.getElem?_eq_some_iff.1 hm
 rw [hz, List.drop_eq_getElem_cons hk]
 exact if_neg (fun h2 => h2 (of_decide_eq_true (nt_f h)))
end
section
variable {a b : NM}
theorem or_two (x y : Int) : orI [x, y] = if x ≠ 0 then x else y := by
 show (if x ≠ 0 then x else if y ≠ 0 then y else 0) = _
 split
 · rfl
 · split
   · rfl
   · omega
theorem cmp_or (h : (!decide (orI [Lib.compareInt a.h b.h, Lib.compareInt a.n b.n] = 0)) = true) : cmpN a b = orI [Lib.compareInt a.h b.h, Lib.compareInt a.n b.n] := by
 have h0 := of_decide_eq_false (nt_t h)
 rw [or_two] at h0 ⊢
 unfold cmpN
 split
 · rfl
 · rename_i h1
   rw [if_neg h1] at h0
   rw [if_pos h0]
theorem cmp_str (h : (!decide (orI [Lib.compareInt a.h b.h, Lib.compareInt a.n b.n] = 0)) = false) : cmpN a b = Lib.compareBytes (encN a) (encN b) := by
 have h0 := of_decide_eq_true (nt_f h)
 rw [or_two] at h0
 unfold cmpN
 split at h0
 · rename_i h1; exact absurd h0 h1
 · rename_i h1
   rw [if_neg h1, if_neg (by omega)]
theorem okN.k {S : Nat → Prop} {w w' : World} {m : NM} (h : okN S w m) (o : Only NoF w w') : okN S w' m := h.only o fun _ _ h => h
theorem enc_y {w : World} (hG : Gr w) {m : NM} (hr : right m = true) {S : Nat → Prop} (hk : okN S w m) : Calls Tryz.prog 25 [noteV m].toArray w (Fix (.tuple #[strV (encN m), .bool true]) w) := by
 have := Encode_v hG hk.note
 rwa [hr, if_pos rfl] at this
end
theorem elemItem : ElemIs Tryz.prog 60 95 5 64 := by
 obtain ⟨i, h1, h2, h3, h4⟩ := info_parts (show (Tryz.prog.info? 95).map (fun i => (i.zero, i.size, i.bytes)) = some (some (.agg #[.int .i64 0, .int .i64 0, .int .i64 0, .slice none 0 0, strV []]), 5, 64) by kernel_rfl)
 exact ⟨Tryz.underlying60, i, _, h1, h2, h3, h4, rfl⟩
theorem isNaNInt_v (w : World) (x : Int) : Calls Tryz.prog 97 [.int .i64 x].toArray w (Fix (.bool false) w) := by
 refine calls_start Tryz.func97 rfl rfl ?_
 intro az Z
 rw [Tryz.ntmps97] at Z
 refine wp_seq_k fun _ k1 => wp_region_lit ?_
 refine L (r_as Z rfl) Z rfl ?_; clear Z az; intro az Z
 refine k1 _ _ (wp_seq_k fun _ k2 => wp_region_lit ?_)
 refine L (r_mv Z rfl) Z rfl ?_; clear Z az; intro az Z
 refine L (r_mv Z rfl) Z rfl ?_; clear Z az; intro az Z
 refine L (r_neRI Z rfl rfl) Z rfl ?_; clear Z az; intro az Z
 refine L (r_as Z rfl) Z rfl ?_; clear Z az; intro az Z
 refine k2 _ _ ?_
 refine wp_ret ?_
 show bodyPost _ _ _ .ret _ _
 refine ret_of (vs := [.bool (false)]) Z Tryz.results97 ⟨rfl, trivial⟩ ?_
 exact ⟨rfl, (Only.refl NoF w)⟩
theorem CmpInt_v (w : World) (x y : Int) : Calls Tryz.prog 62 [.int .i64 x, .int .i64 y].toArray w (Fix (.int .i64 (Lib.compareInt x y)) w) := by
 refine calls_start Tryz.func62 rfl rfl ?_
 intro az Z
 rw [Tryz.ntmps62] at Z
 refine wp_seq_k fun _ k1 => wp_region_lit ?_
 refine L (r_as Z rfl) Z rfl ?_; clear Z az; intro az Z
 refine k1 _ _ (wp_seq_k fun _ k2 => wp_region_lit ?_)
 refine L (r_mv Z rfl) Z rfl ?_; clear Z az; intro az Z
 refine LCV (v := .bool (false)) Z rfl rfl Tryz.call97 (isNaNInt_v _ x) rfl fun w3 o4 => ?_; clear Z az; intro az Z
 refine L (r_as Z rfl) Z rfl ?_; clear Z az; intro az Z
 refine k2 _ _ (wp_seq_k fun _ k5 => wp_region_lit ?_)
 refine L (r_mv Z rfl) Z rfl ?_; clear Z az; intro az Z
 refine LCV (v := .bool (false)) Z rfl rfl Tryz.call97 (isNaNInt_v _ y) rfl fun w6 o7 => ?_; clear Z az; intro az Z
 refine L (r_as Z rfl) Z rfl ?_; clear Z az; intro az Z
 refine k5 _ _ (wp_seq_k fun _ k8 => ?_)
 refine wp_seq_k fun _ k9 => wp_region_lit ?_
 refine L (r_mv Z rfl) Z rfl ?_; clear Z az; intro az Z
 refine k9 _ _ ?_
 refine br_false Z rfl ?_
 refine wp_skip ?_
 refine k8 _ _ (wp_seq_k fun _ k10 => ?_)
 refine wp_seq_k fun _ k11 => wp_region_lit ?_
 refine L (r_mv Z rfl) Z rfl ?_; clear Z az; intro az Z
 refine k11 _ _ ?_
 refine br_false Z rfl ?_
 refine wp_skip ?_
 refine k10 _ _ (wp_seq_k fun _ k12 => ?_)
 refine wp_seq_k fun _ k13 => wp_region_lit ?_
 refine L (r_mv Z rfl) Z rfl ?_; clear Z az; intro az Z
 refine L (r_mv Z rfl) Z rfl ?_; clear Z az; intro az Z
 refine L (r_ltI Z rfl rfl) Z rfl ?_; clear Z az; intro az Z
 refine k13 _ _ ?_
 refine br Z rfl (fun hc14 => ?_) (fun hc14 => ?_)
 ·
  have p15 := of_decide_eq_true hc14
  refine wp_seq_k fun _ k16 => wp_region_lit ?_
  refine L (r_as Z rfl) Z rfl ?_; clear Z az; intro az Z
  refine k16 _ _ ?_
  refine wp_ret ?_
  show bodyPost _ _ _ .ret _ _
  refine ret_of (vs := [.int .i64 ((-1))]) Z Tryz.results62 ⟨rfl, trivial⟩ ?_
  have O17 : Only NoF w w6 := (Only.trans' o4 o7)
  rw [ci_t hc14]; exact ⟨rfl, O17⟩
 ·
  have p18 := of_decide_eq_false hc14
  refine wp_skip ?_
  refine k12 _ _ (wp_seq_k fun _ k19 => ?_)
  refine wp_seq_k fun _ k20 => wp_region_lit ?_
  refine L (r_mv Z rfl) Z rfl ?_; clear Z az; intro az Z
  refine L (r_mv Z rfl) Z rfl ?_; clear Z az; intro az Z
  refine L (r_gtI Z rfl rfl) Z rfl ?_; clear Z az; intro az Z
  refine k20 _ _ ?_
  refine br Z rfl (fun hc21 => ?_) (fun hc21 => ?_)
  ·
   have p22 := of_decide_eq_true hc21
   refine wp_seq_k fun _ k23 => wp_region_lit ?_
   refine L (r_as Z rfl) Z rfl ?_; clear Z az; intro az Z
   refine k23 _ _ ?_
   refine wp_ret ?_
   show bodyPost _ _ _ .ret _ _
   refine ret_of (vs := [.int .i64 (1)]) Z Tryz.results62 ⟨rfl, trivial⟩ ?_
   have O24 : Only NoF w w6 := (Only.trans' o4 o7)
   rw [ci_ft hc14 hc21]; exact ⟨rfl, O24⟩
  ·
   have p25 := of_decide_eq_false hc21
   refine wp_skip ?_
   refine k19 _ _ (wp_seq_k fun _ k26 => wp_region_lit ?_)
   refine L (r_as Z rfl) Z rfl ?_; clear Z az; intro az Z
   refine k26 _ _ ?_
   refine wp_ret ?_
   show bodyPost _ _ _ .ret _ _
   refine ret_of (vs := [.int .i64 (0)]) Z Tryz.results62 ⟨rfl, trivial⟩ ?_
   have O27 : Only NoF w w6 := (Only.trans' o4 o7)
   rw [ci_ff hc14 hc21]; exact ⟨rfl, O27⟩
theorem isNaNStr_v (w : World) (x : Str) : Calls Tryz.prog 117 [strV x].toArray w (Fix (.bool false) w) := by
 refine calls_start Tryz.func117 rfl rfl ?_
 intro az Z
 rw [Tryz.ntmps117] at Z
 refine wp_seq_k fun _ k1 => wp_region_lit ?_
 refine L (r_as Z rfl) Z rfl ?_; clear Z az; intro az Z
 refine k1 _ _ (wp_seq_k fun _ k2 => wp_region_lit ?_)
 refine L (r_mv Z rfl) Z rfl ?_; clear Z az; intro az Z
 refine L (r_mv Z rfl) Z rfl ?_; clear Z az; intro az Z
 refine L (r_neRS Z rfl rfl) Z rfl ?_; clear Z az; intro az Z
 refine L (r_as Z rfl) Z rfl ?_; clear Z az; intro az Z
 refine k2 _ _ ?_
 refine wp_ret ?_
 show bodyPost _ _ _ .ret _ _
 refine ret_of (vs := [.bool (false)]) Z Tryz.results117 ⟨rfl, trivial⟩ ?_
 exact ⟨rfl, (Only.refl NoF w)⟩
theorem CmpStr_v (w : World) (x y : Str) : Calls Tryz.prog 92 [strV x, strV y].toArray w (Fix (.int .i64 (Lib.compareBytes x y)) w) := by
 refine calls_start Tryz.func92 rfl rfl ?_
 intro az Z
 rw [Tryz.ntmps92] at Z
 refine wp_seq_k fun _ k1 => wp_region_lit ?_
 refine L (r_as Z rfl) Z rfl ?_; clear Z az; intro az Z
 refine k1 _ _ (wp_seq_k fun _ k2 => wp_region_lit ?_)
 refine L (r_mv Z rfl) Z rfl ?_; clear Z az; intro az Z
 refine LCV (v := .bool (false)) Z rfl rfl Tryz.call117 (isNaNStr_v _ x) rfl fun w3 o4 => ?_; clear Z az; intro az Z
 refine L (r_as Z rfl) Z rfl ?_; clear Z az; intro az Z
 refine k2 _ _ (wp_seq_k fun _ k5 => wp_region_lit ?_)
 refine L (r_mv Z rfl) Z rfl ?_; clear Z az; intro az Z
 refine LCV (v := .bool (false)) Z rfl rfl Tryz.call117 (isNaNStr_v _ y) rfl fun w6 o7 => ?_; clear Z az; intro az Z
 refine L (r_as Z rfl) Z rfl ?_; clear Z az; intro az Z
 refine k5 _ _ (wp_seq_k fun _ k8 => ?_)
 refine wp_seq_k fun _ k9 => wp_region_lit ?_
 refine L (r_mv Z rfl) Z rfl ?_; clear Z az; intro az Z
 refine k9 _ _ ?_
 refine br_false Z rfl ?_
 refine wp_skip ?_
 refine k8 _ _ (wp_seq_k fun _ k10 => ?_)
 refine wp_seq_k fun _ k11 => wp_region_lit ?_
 refine L (r_mv Z rfl) Z rfl ?_; clear Z az; intro az Z
 refine k11 _ _ ?_
 refine br_false Z rfl ?_
 refine wp_skip ?_
 refine k10 _ _ (wp_seq_k fun _ k12 => ?_)
 refine wp_seq_k fun _ k13 => wp_region_lit ?_
 refine L (r_mv Z rfl) Z rfl ?_; clear Z az; intro az Z
 refine L (r_mv Z rfl) Z rfl ?_; clear Z az; intro az Z
 refine L (r_ltS Z rfl rfl) Z rfl ?_; clear Z az; intro az Z
 refine k13 _ _ ?_
 refine br Z rfl (fun hc14 => ?_) (fun hc14 => ?_)
 ·
  have p15 := of_decide_eq_true hc14
  refine wp_seq_k fun _ k16 => wp_region_lit ?_
  refine L (r_as Z rfl) Z rfl ?_; clear Z az; intro az Z
  refine k16 _ _ ?_
  refine wp_ret ?_
  show bodyPost _ _ _ .ret _ _
  refine ret_of (vs := [.int .i64 ((-1))]) Z Tryz.results92 ⟨rfl, trivial⟩ ?_
  have O17 : Only NoF w w6 := (Only.trans' o4 o7)
  rw [cs_t hc14]; exact ⟨rfl, O17⟩
 ·
  have p18 := of_decide_eq_false hc14
  refine wp_skip ?_
  refine k12 _ _ (wp_seq_k fun _ k19 => ?_)
  refine wp_seq_k fun _ k20 => wp_region_lit ?_
  refine L (r_mv Z rfl) Z rfl ?_; clear Z az; intro az Z
  refine L (r_mv Z rfl) Z rfl ?_; clear Z az; intro az Z
  refine L (r_gtS Z rfl rfl) Z rfl ?_; clear Z az; intro az Z
  refine k20 _ _ ?_
  refine br Z rfl (fun hc21 => ?_) (fun hc21 => ?_)
  ·
   have p22 := of_decide_eq_true hc21
   refine wp_seq_k fun _ k23 => wp_region_lit ?_
   refine L (r_as Z rfl) Z rfl ?_; clear Z az; intro az Z
   refine k23 _ _ ?_
   refine wp_ret ?_
   show bodyPost _ _ _ .ret _ _
   refine ret_of (vs := [.int .i64 (1)]) Z Tryz.results92 ⟨rfl, trivial⟩ ?_
   have O24 : Only NoF w w6 := (Only.trans' o4 o7)
   rw [cs_ft hc14 hc21]; exact ⟨rfl, O24⟩
  ·
   have p25 := of_decide_eq_false hc21
   refine wp_skip ?_
   refine k19 _ _ (wp_seq_k fun _ k26 => wp_region_lit ?_)
   refine L (r_as Z rfl) Z rfl ?_; clear Z az; intro az Z
   refine k26 _ _ ?_
   refine wp_ret ?_
   show bodyPost _ _ _ .ret _ _
   refine ret_of (vs := [.int .i64 (0)]) Z Tryz.results92 ⟨rfl, trivial⟩ ?_
   have O27 : Only NoF w w6 := (Only.trans' o4 o7)
   rw [cs_ff hc14 hc21]; exact ⟨rfl, O27⟩
theorem Or_v_ {w : World} {l : List Int} {A1 : Option Addr} {c1 : Nat} (f1 : IntsV w (.slice A1 l.length c1) l) : Calls Tryz.prog 91 [.slice A1 l.length c1].toArray w (Fix (.int .i64 (orI l)) w) := by
 have hbd1 := Nat.le_trans (SliceOf.cap_ f1) (SliceOf.lens f1).2
 refine calls_start Tryz.func91 rfl rfl ?_
 intro az Z
 rw [Tryz.ntmps91] at Z
 refine wp_seq_k fun _ k1 => wp_region_lit ?_
 refine L (r_as Z rfl) Z rfl ?_; clear Z az; intro az Z
 refine k1 _ _ (wp_seq_k fun _ k2 => wp_region_lit ?_)
 refine L (r_as Z rfl) Z rfl ?_; clear Z az; intro az Z
 refine k2 _ _ (wp_seq_k fun _ k3 => ?_)
 refine wp_seq_k fun _ k4 => wp_region_lit ?_
 refine L (r_mv Z rfl) Z rfl ?_; clear Z az; intro az Z
 refine L (r_lenL Tryz.underlying30 Z rfl) Z rfl ?_; clear Z az; intro az Z
 refine L (r_mv Z rfl) Z rfl ?_; clear Z az; intro az Z
 refine k4 _ _ ?_
 refine wp_block ?_
 refine wp_loop_m (fun mz az W => ∃ k : Nat, mz = l.length - k ∧ Fr 18 [(3, .int .i64 (0)), (6, .slice A1 (l.length) c1), (7, .int .i64 (((l.length : Nat) : Int))), (8, .int .i64 ((k : Int)))] az ∧ (k ≤ l.length) ∧ (orI l = orI (l.drop k)) ∧ Only NoF w W) ?_ ?_
 ·
  exact ⟨_, 0, rfl, Z.cut ⟨rfl, rfl, rfl, rfl, trivial⟩, Nat.zero_le _, rfl, (Only.refl NoF w)⟩
 clear Z az
 rintro mz az w5 ⟨k, hm7, Z, hk, hz, o6⟩
 refine wp_seq_k fun _ k8 => wp_region_lit ?_
 refine L (r_ltI Z rfl rfl) Z rfl ?_; clear Z az; intro az Z
 refine k8 _ _ (wp_seq_k fun _ k9 => ?_)
 refine br Z rfl (fun hc10 => ?_) (fun hc10 => ?_)
 ·
  have p11 := of_decide_eq_true hc10
  refine wp_skip ?_
  refine k9 _ _ (wp_seq_k fun _ k12 => ?_)
  refine wp_block ?_
  refine wp_seq_k fun _ k13 => wp_region_lit ?_
  have hk14 : k < (l).length := by omega
  have h20 := (SliceOf.kp f1 o6 (fun _ _ h => h) (fun _ _ _ _ h => h))
  obtain ⟨m15, hm16, ok17, hA18⟩ := Row.el KInt h20 hk14
  have E19 : ∀ W, Only NoF w5 W → CA W (eA A1 1 (k)) [.int .i64 (m15)] := Row.ce KInt h20 hm16 rfl
  refine L (r_ia (k := k) (size := 1) Tryz.underlying30 Tryz.sizeOf3 Z rfl rfl rfl hk14 hA18) Z rfl ?_; clear Z az; intro az Z
  refine L (r_ld Tryz.isAgg3 Z rfl (CA.first (E19 _ (Only.refl NoF w5)))) Z rfl ?_; clear Z az; intro az Z
  refine L (r_as Z rfl) Z rfl ?_; clear Z az; intro az Z
  refine k13 _ _ (wp_seq_k fun _ k21 => wp_region_lit ?_)
  refine L (r_mv Z rfl) Z rfl ?_; clear Z az; intro az Z
  refine L (r_mv Z rfl) Z rfl ?_; clear Z az; intro az Z
  refine L (r_neI Z rfl rfl) Z rfl ?_; clear Z az; intro az Z
  refine k21 _ _ ?_
  refine br Z rfl (fun hc22 => ?_) (fun hc22 => ?_)
  ·
   have p23 := of_decide_eq_false (nt_t hc22)
   refine wp_seq_k fun _ k24 => wp_region_lit ?_
   refine L (r_mv Z rfl) Z rfl ?_; clear Z az; intro az Z
   refine L (r_as Z rfl) Z rfl ?_; clear Z az; intro az Z
   refine k24 _ _ ?_
   refine wp_ret ?_
   show bodyPost _ _ _ .ret _ _
   refine ret_of (vs := [.int .i64 (m15)]) Z Tryz.results91 ⟨rfl, trivial⟩ ?_
   rw [hz, or_hit hm16 hc22]; exact ⟨rfl, o6⟩
  ·
   have p25 := of_decide_eq_true (nt_f hc22)
   refine wp_skip ?_
   refine k12 _ _ ?_
   refine wp_region_lit ?_
   have i26 : I64 (((k : Int) + 1)) := by unfold I64; omega
   refine L (r_addI (r := ((k : Int) + 1)) Z rfl rfl rfl i26) Z rfl ?_; clear Z az; intro az Z
   refine L (r_mv Z rfl) Z rfl ?_; clear Z az; intro az Z
   exact ⟨_, (by omega), k + 1, rfl, Z.cut ⟨rfl, rfl, rfl, rfl, trivial⟩, (by omega), (or_step hm16 hz hc22), o6⟩
 ·
  have p27 := of_decide_eq_false hc10
  refine wp_exit ?_
  refine th_exit ?_
  refine th_exit ?_
  refine ib_hit ?_
  refine k3 _ _ (wp_seq_k fun _ k28 => wp_region_lit ?_)
  refine L (r_mv Z rfl) Z rfl ?_; clear Z az; intro az Z
  refine L (r_as Z rfl) Z rfl ?_; clear Z az; intro az Z
  refine k28 _ _ ?_
  refine wp_ret ?_
  show bodyPost _ _ _ .ret _ _
  refine ret_of (vs := [.int .i64 (0)]) Z Tryz.results91 ⟨rfl, trivial⟩ ?_
  rw [hz, List.drop_of_length_le (by omega)]; exact ⟨rfl, o6⟩
theorem cmp_v {w : World} (hG : Gr w) {a b : NM} (ha : right a = true) (hb : right b = true) (oka : okN AllB w a) (okb : okN AllB w b) : Calls Tryz.prog 54 [.agg #[.int .i64 a.h, .int .i64 a.n, .int .i64 a.d, .slice a.A a.l.length a.c, strV a.s], .agg #[.int .i64 b.h, .int .i64 b.n, .int .i64 b.d, .slice b.A b.l.length b.c, strV b.s]].toArray w (Fix (.int .i64 (cmpN a b)) w) := by
 refine calls_start Tryz.func54 rfl rfl ?_
 intro az Z
 rw [Tryz.ntmps54] at Z
 refine wp_seq_k fun _ k1 => wp_region_lit ?_
 refine LBox Z rfl rfl rfl ?_
 clear Z az; intro g2 w3 hg6 hl7 o4 B5 az Z
 refine LBox Z rfl rfl rfl ?_
 clear Z az; intro g8 w9 hg12 hl13 o10 B11 az Z
 refine L (r_as Z rfl) Z rfl ?_; clear Z az; intro az Z
 refine k1 _ _ (wp_seq_k fun _ k14 => ?_)
 refine wp_seq_k fun _ k15 => ?_
 refine reg_p NoF 4 [4, 9, 10, 11] (.rd 0 (.rd 1 (.rd 2 (.rd 3 (.rd 5 (.rd 6 (.rd 7 (.rd 8 (.ex 4 (.ex 9 (.ex 10 (.ex 11 (.rd 12 .nil))))))))))))) (by kernel_rfl) (by kernel_rfl) (fun _ _ _ _ _ h => h) fun w16 o17 => ?_
 have B18 := (Blk.k (Blk.k B5 o10) o17)
 have B19 := (Blk.k B11 o17)
 refine Pl.MSP (b := true) (by kernel_rfl) (fun W oW => r_fa (m' := 0) Tryz.underlying95 rfl Tryz.sizeOf3 rfl Z rfl rfl) Z rfl rfl ?_; clear Z az; intro az Z
 refine Pl.MSP (b := true) (by kernel_rfl) (fun W oW => r_ld Tryz.isAgg3 Z rfl ((Blk.ca (Blk.k B18 oW)) 0 _ rfl)) Z rfl rfl ?_; clear Z az; intro az Z
 refine Pl.MSP (b := true) (by kernel_rfl) (fun W oW => r_fa (m' := 0) Tryz.underlying95 rfl Tryz.sizeOf3 rfl Z rfl rfl) Z rfl rfl ?_; clear Z az; intro az Z
 refine Pl.MSP (b := true) (by kernel_rfl) (fun W oW => r_ld Tryz.isAgg3 Z rfl ((Blk.ca (Blk.k B19 oW)) 0 _ rfl)) Z rfl rfl ?_; clear Z az; intro az Z
 refine Pl.MSP (b := true) (by kernel_rfl) (fun W oW => r_fa (m' := 1) Tryz.underlying95 rfl Tryz.sizeOf3 rfl Z rfl rfl) Z rfl rfl ?_; clear Z az; intro az Z
 refine Pl.MSP (b := true) (by kernel_rfl) (fun W oW => r_ld Tryz.isAgg3 Z rfl ((Blk.ca (Blk.k B18 oW)) 1 _ rfl)) Z rfl rfl ?_; clear Z az; intro az Z
 refine Pl.MSP (b := true) (by kernel_rfl) (fun W oW => r_fa (m' := 1) Tryz.underlying95 rfl Tryz.sizeOf3 rfl Z rfl rfl) Z rfl rfl ?_; clear Z az; intro az Z
 refine Pl.MSP (b := true) (by kernel_rfl) (fun W oW => r_ld Tryz.isAgg3 Z rfl ((Blk.ca (Blk.k B19 oW)) 1 _ rfl)) Z rfl rfl ?_; clear Z az; intro az Z
 refine Pl.MSV (v := .int .i64 (Lib.compareInt a.h b.h)) Z rfl rfl rfl Tryz.call62 (CmpInt_v _ a.h b.h) rfl (fun w' o' => ⟨fun _ => o', (Only.trans (Only.refl NoF w16) o' (fun _ h => h.elim))⟩) fun w20 o21 => ?_; clear Z az; intro az Z
 refine Pl.MSV (v := .int .i64 (Lib.compareInt a.n b.n)) Z rfl rfl rfl Tryz.call62 (CmpInt_v _ a.n b.n) rfl (fun w' o' => ⟨fun _ => (Only.trans' o21 o'), (Only.trans (Only.trans (Only.refl NoF w16) o21 (fun _ h => h.elim)) o' (fun _ h => h.elim))⟩) fun w22 o23 => ?_; clear Z az; intro az Z
 obtain ⟨A24, w25, hw, hA, r26, o27⟩ := Row.made (w := w22) KInt (e := 3) ([Lib.compareInt a.h b.h, Lib.compareInt a.n b.n] : List Int) (by simp only [List.length_cons, List.length_nil]; unfold maxLen; omega)
 refine Pl.MD (r_bs (z := .int .i64 (0)) (size := 1) (vs := [(0, .int .i64 (Lib.compareInt a.h b.h)), (1, .int .i64 (Lib.compareInt a.n b.n))]) (cs := List.flatMap KInt.cells [Lib.compareInt a.h b.h, Lib.compareInt a.n b.n]) Tryz.underlying30 Tryz.sizeOf3 Tryz.zeroValue3 rfl (Fr.evalps Z rfl) (by kernel_rfl)) Z rfl rfl ?_ ?_
 · rw [← hw]; exact ⟨fun _ => (Only.trans' (Only.trans' o21 o23) o27), (Only.trans (Only.trans (Only.trans (Only.refl NoF w16) o21 (fun _ h => h.elim)) o23 (fun _ h => h.elim)) o27 (fun _ h => h.elim))⟩
 rw [← hw, ← hA]; clear Z az; intro az Z
 clear hw hA
 have ok28 : ∀ zq ∈ ([Lib.compareInt a.h b.h, Lib.compareInt a.n b.n] : List Int), KInt.ok zq := by intro zq hx; simp only [List.mem_cons, List.not_mem_nil, or_false] at hx; rcases hx with rfl | rfl <;> first | exact (ci_ok _ _) | exact (ci_ok _ _)
 have h29 := SliceOf.pl (Row.own KInt r26 ok28)
 refine Pl.MSV (v := .int .i64 (orI [Lib.compareInt a.h b.h, Lib.compareInt a.n b.n])) Z rfl rfl rfl Tryz.call91 (Or_v_ h29) rfl (fun w' o' => ⟨fun _ => (Only.trans' (Only.trans' (Only.trans' o21 o23) o27) o'), (Only.trans (Only.trans (Only.trans (Only.trans (Only.refl NoF w16) o21 (fun _ h => h.elim)) o23 (fun _ h => h.elim)) o27 (fun _ h => h.elim)) o' (fun _ h => h.elim))⟩) fun w30 o31 => ?_; clear Z az; intro az Z
 refine Pl.MSP (b := true) (by kernel_rfl) (fun W oW => r_as Z rfl) Z rfl rfl ?_; clear Z az; intro az Z
 refine wpPl_nil ?_
 refine k15 _ _ (wp_seq_k fun _ k32 => wp_region_lit ?_)
 refine L (r_mv Z rfl) Z rfl ?_; clear Z az; intro az Z
 refine L (r_neI Z rfl rfl) Z rfl ?_; clear Z az; intro az Z
 refine k32 _ _ ?_
 refine br Z rfl (fun hc33 => ?_) (fun hc33 => ?_)
 ·
  have p34 := of_decide_eq_false (nt_t hc33)
  refine wp_seq_k fun _ k35 => wp_region_lit ?_
  refine L (r_mv Z rfl) Z rfl ?_; clear Z az; intro az Z
  refine L (r_as Z rfl) Z rfl ?_; clear Z az; intro az Z
  refine k35 _ _ ?_
  refine wp_ret ?_
  show bodyPost _ _ _ .ret _ _
  refine ret_of (vs := [.int .i64 (orI [Lib.compareInt a.h b.h, Lib.compareInt a.n b.n])]) Z Tryz.results54 ⟨rfl, trivial⟩ ?_
  have O36 : Only NoF w w30 := (Only.trans' (Only.trans' (Only.trans' (Only.trans' (Only.trans' (Only.trans' o4 o10) o17) o21) o23) o27) o31)
  rw [cmp_or hc33]; exact ⟨rfl, O36⟩
 ·
  have p37 := of_decide_eq_true (nt_f hc33)
  refine wp_skip ?_
  refine k14 _ _ (wp_seq_k fun _ k38 => wp_region_lit ?_)
  have B39 := (Blk.k (Blk.k (Blk.k (Blk.k B18 o21) o23) o27) o31)
  refine L (r_ldA Tryz.isAgg95 Tryz.sizeOf95 Z rfl (Blk.ca B39) rfl) Z rfl ?_; clear Z az; intro az Z
  have O41 : Only NoF w w30 := (Only.trans' (Only.trans' (Only.trans' (Only.trans' (Only.trans' (Only.trans' o4 o10) o17) o21) o23) o27) o31)
  have G40 := Gr.k hG O41
  refine LCV (v := .tuple #[strV (encN a), .bool (true)]) Z rfl rfl Tryz.call25 (enc_y G40 ha (okN.k oka O41)) rfl fun w42 o43 => ?_; clear Z az; intro az Z
  refine L (r_mv Z rfl) Z rfl ?_; clear Z az; intro az Z
  refine L (r_ex Z rfl rfl) Z rfl ?_; clear Z az; intro az Z
  refine L (r_ex Z rfl rfl) Z rfl ?_; clear Z az; intro az Z
  refine L (r_as Z rfl) Z rfl ?_; clear Z az; intro az Z
  refine L (r_as Z rfl) Z rfl ?_; clear Z az; intro az Z
  refine k38 _ _ (wp_seq_k fun _ k44 => wp_region_lit ?_)
  have B45 := (Blk.k (Blk.k (Blk.k (Blk.k (Blk.k B19 o21) o23) o27) o31) o43)
  refine L (r_ldA Tryz.isAgg95 Tryz.sizeOf95 Z rfl (Blk.ca B45) rfl) Z rfl ?_; clear Z az; intro az Z
  have O47 : Only NoF w w42 := (Only.trans' O41 o43)
  have G46 := Gr.k hG O47
  refine LCV (v := .tuple #[strV (encN b), .bool (true)]) Z rfl rfl Tryz.call25 (enc_y G46 hb (okN.k okb O47)) rfl fun w48 o49 => ?_; clear Z az; intro az Z
  refine L (r_mv Z rfl) Z rfl ?_; clear Z az; intro az Z
  refine L (r_ex Z rfl rfl) Z rfl ?_; clear Z az; intro az Z
  refine L (r_ex Z rfl rfl) Z rfl ?_; clear Z az; intro az Z
  refine L (r_as Z rfl) Z rfl ?_; clear Z az; intro az Z
  refine L (r_as Z rfl) Z rfl ?_; clear Z az; intro az Z
  refine k44 _ _ (wp_seq_k fun _ k50 => wp_region_lit ?_)
  refine L (r_mv Z rfl) Z rfl ?_; clear Z az; intro az Z
  refine L (r_mv Z rfl) Z rfl ?_; clear Z az; intro az Z
  refine LCV (v := .int .i64 (Lib.compareBytes (encN a) (encN b))) Z rfl rfl Tryz.call92 (CmpStr_v _ (encN a) (encN b)) rfl fun w51 o52 => ?_; clear Z az; intro az Z
  refine L (r_as Z rfl) Z rfl ?_; clear Z az; intro az Z
  refine k50 _ _ ?_
  refine wp_ret ?_
  show bodyPost _ _ _ .ret _ _
  refine ret_of (vs := [.int .i64 (Lib.compareBytes (encN a) (encN b))]) Z Tryz.results54 ⟨rfl, trivial⟩ ?_
  have O53 : Only NoF w w51 := (Only.trans' (Only.trans' O47 o49) o52)
  rw [cmp_str hc33]; exact ⟨rfl, O53⟩
end Go.Proofs.YtdcbjedkddgfkaaGreatDoor
