/-
  The wire's reader: fail, number, close, walked. Condition: at most 1,000,000 bytes are left.
  The wire: the reader's calls but for lists, Open, the encodings but for lists, walked. Condition: at most 1,000,000 bytes.
  strings.Builder in memory, for the calculus of small steps. Condition: Go's own limit on a builder's length.
  The wire's lists encoded, walked. Condition: at most 1,000,000 elements, and a bound on the bytes.
-/
import Derived.Test.YtdcbjedkddgfkaaGreatDoorWir2
namespace Go.Proofs.YtdcbjedkddgfkaaGreatDoor
set_option maxHeartbeats 4000000
set_option maxRecDepth 20000
set_option linter.unusedVariables false
set_option linter.unusedSimpArgs false
set_option linter.unusedSectionVars false
section
open Go.RowKit
end
section
open Go.RowKit
namespace Wr
theorem text_f1 {s : Rd} (h : (((number s 58 0).2.r.length : Nat) : Int) < (number s 58 0).1) : text s = ([], failed) := by
 unfold text; rw [if_pos h]
theorem text_f2 {s : Rd} {q : Nat} (h : ¬ (((number s 58 0).2.r.length : Nat) : Int) < (number s 58 0).1) (hq : (number s 58 0).1 = (q : Int)) (hb : (close ⟨(number s 58 0).2.r.drop q, (number s 58 0).2.b⟩ 44).b = true) :
 text s = ([], close ⟨(number s 58 0).2.r.drop q, (number s 58 0).2.b⟩ 44) := by
 have e : (number s 58 0).1.toNat = q := by omega
 unfold text; rw [if_neg h, e, if_pos hb]
theorem text_s {s : Rd} {q : Nat} (h : ¬ (((number s 58 0).2.r.length : Nat) : Int) < (number s 58 0).1) (hq : (number s 58 0).1 = (q : Int)) (hb : (close ⟨(number s 58 0).2.r.drop q, (number s 58 0).2.b⟩ 44).b = false) :
 text s = ((number s 58 0).2.r.take q, close ⟨(number s 58 0).2.r.drop q, (number s 58 0).2.b⟩ 44) := by
 have e : (number s 58 0).1.toNat = q := by omega
 unfold text; rw [if_neg h, e, if_neg (by rw [hb]; decide)]
end Wr
theorem Int_v {w : World} (hG : Gr w) (n : Int) (hn : Wr.Ok n) : Calls Tryz.prog 66 [.int .i64 n].toArray w (Fix (strV (Wr.intE n)) w) := by
 refine calls_start Tryz.func66 rfl rfl ?_
 intro az Z
 rw [Tryz.ntmps66] at Z
 refine wp_seq_k fun _ k1 => wp_region_lit ?_
 refine L (r_as Z rfl) Z rfl ?_; clear Z az; intro az Z
 refine k1 _ _ (wp_seq_k fun _ k2 => wp_region_lit ?_)
 refine L (r_mv Z rfl) Z rfl ?_; clear Z az; intro az Z
 have G3 := Gr.k hG (Only.refl NoF w)
 refine LCV (v := strV (Lib.itoa n)) Z rfl rfl Tryz.call68 (itoa_v G3 n hn) rfl fun w4 o5 => ?_; clear Z az; intro az Z
 refine L (r_addS Z rfl rfl (by simp only [List.length_append, List.length_cons, List.length_nil]; have hq := itoa_len n hn.1 hn.2; omega)) Z rfl ?_; clear Z az; intro az Z
 refine L (r_as Z rfl) Z rfl ?_; clear Z az; intro az Z
 refine k2 _ _ ?_
 refine wp_ret ?_
 show bodyPost _ _ _ .ret _ _
 refine ret_of (vs := [strV (Lib.itoa n ++ [59])]) Z Tryz.results66 ⟨rfl, trivial⟩ ?_
 exact ⟨rfl, o5⟩
theorem Num_v {w : World} (hG : Gr w) (n : Int) (hn : Wr.Ok n) : Calls Tryz.prog 44 [.int .i64 n].toArray w (Fix (strV (Wr.numE n)) w) := by
 refine calls_start Tryz.func44 rfl rfl ?_
 intro az Z
 rw [Tryz.ntmps44] at Z
 refine wp_seq_k fun _ k1 => wp_region_lit ?_
 refine L (r_as Z rfl) Z rfl ?_; clear Z az; intro az Z
 refine k1 _ _ (wp_seq_k fun _ k2 => ?_)
 refine wp_seq_k fun _ k3 => wp_region_lit ?_
 refine L (r_mv Z rfl) Z rfl ?_; clear Z az; intro az Z
 refine L (r_ltI Z rfl rfl) Z rfl ?_; clear Z az; intro az Z
 refine k3 _ _ ?_
 refine br Z rfl (fun hc4 => ?_) (fun hc4 => ?_)
 ·
  have p5 := of_decide_eq_true hc4
  refine wp_seq_k fun _ k6 => wp_region_lit ?_
  refine L (r_as Z rfl) Z rfl ?_; clear Z az; intro az Z
  refine k6 _ _ ?_
  refine wp_ret ?_
  show bodyPost _ _ _ .ret _ _
  refine ret_of (vs := [strV ([])]) Z Tryz.results44 ⟨rfl, trivial⟩ ?_
  unfold Wr.numE; rw [if_pos (of_decide_eq_true hc4)]; exact ⟨rfl, (Only.refl NoF w)⟩
 ·
  have p7 := of_decide_eq_false hc4
  refine wp_skip ?_
  refine k2 _ _ (wp_seq_k fun _ k8 => wp_region_lit ?_)
  refine L (r_mv Z rfl) Z rfl ?_; clear Z az; intro az Z
  have G9 := Gr.k hG (Only.refl NoF w)
  refine LCV (v := strV (Wr.intE n)) Z rfl rfl Tryz.call66 (Int_v G9 n hn) rfl fun w10 o11 => ?_; clear Z az; intro az Z
  refine L (r_as Z rfl) Z rfl ?_; clear Z az; intro az Z
  refine k8 _ _ ?_
  refine wp_ret ?_
  show bodyPost _ _ _ .ret _ _
  refine ret_of (vs := [strV (Wr.intE n)]) Z Tryz.results44 ⟨rfl, trivial⟩ ?_
  unfold Wr.numE; rw [if_neg (of_decide_eq_false hc4)]; exact ⟨rfl, o11⟩
theorem Text_v {w : World} (hG : Gr w) (t : Str) (ht : t.length ≤ 1000000000) : Calls Tryz.prog 46 [strV t].toArray w (Fix (strV (Wr.textE t)) w) := by
 refine calls_start Tryz.func46 rfl rfl ?_
 intro az Z
 rw [Tryz.ntmps46] at Z
 refine wp_seq_k fun _ k1 => wp_region_lit ?_
 refine L (r_as Z rfl) Z rfl ?_; clear Z az; intro az Z
 refine k1 _ _ (wp_seq_k fun _ k2 => wp_region_lit ?_)
 refine L (r_mv Z rfl) Z rfl ?_; clear Z az; intro az Z
 refine L (r_lenS Tryz.underlying9 Z rfl) Z rfl ?_; clear Z az; intro az Z
 have G3 := Gr.k hG (Only.refl NoF w)
 refine LCV (v := strV (Lib.itoa ((List.length (t) : Nat) : Int))) Z rfl rfl Tryz.call68 (itoa_v G3 ((List.length (t) : Nat) : Int) (by unfold Wr.Ok; omega)) rfl fun w4 o5 => ?_; clear Z az; intro az Z
 refine L (r_addS Z rfl rfl (by simp only [List.length_append, List.length_cons, List.length_nil]; have hq := itoa_len ((t.length : Nat) : Int) (by omega) (by omega); omega)) Z rfl ?_; clear Z az; intro az Z
 refine L (r_mv Z rfl) Z rfl ?_; clear Z az; intro az Z
 refine L (r_addS Z rfl rfl (by simp only [List.length_append, List.length_cons, List.length_nil]; have hq := itoa_len ((t.length : Nat) : Int) (by omega) (by omega); omega)) Z rfl ?_; clear Z az; intro az Z
 refine L (r_addS Z rfl rfl (by simp only [List.length_append, List.length_cons, List.length_nil]; have hq := itoa_len ((t.length : Nat) : Int) (by omega) (by omega); omega)) Z rfl ?_; clear Z az; intro az Z
 refine L (r_as Z rfl) Z rfl ?_; clear Z az; intro az Z
 refine k2 _ _ ?_
 refine wp_ret ?_
 show bodyPost _ _ _ .ret _ _
 refine ret_of (vs := [strV (Lib.itoa ((List.length (t) : Nat) : Int) ++ [58] ++ t ++ [44])]) Z Tryz.results46 ⟨rfl, trivial⟩ ?_
 exact ⟨rfl, o5⟩
end
section
open Go.RowKit
/-- a builder that holds the bytes t, in blocks from B on -/
def Bld (B g : Nat) (t : Str) (w : World) : Prop := Lib.IsBuilder 137 5 B g (Lib.byteCells t) w
theorem bldAt_k {B g : Nat} {p : Value} {bs : List Value} {w w' : World} (h : Lib.BuilderAt 137 5 B g p bs w) (o : Only NoF w w') : Lib.BuilderAt 137 5 B g p bs w' := by
 have hlt := h.lt
 obtain ⟨hB, v, hb, hown, hne⟩ := h
 exact ⟨hB, v, (o.block g hlt id).trans hb, ow_k hown o, hne⟩
theorem Bld.k {B g : Nat} {t : Str} {w w' : World} (h : Bld B g t w) (o : Only NoF w w') : Bld B g t w' := h.imp (bldAt_k · o) (bldAt_k · o)
theorem Bld.new {B g : Nat} {w' : World} (hB : B ≤ g) (hb : Blk w' g 137 [.pointer none, .slice none 0 0].toArray) : Bld B g [] w' :=
 .inl ⟨hB, .slice none 0 0, hb, World.ownsRow_nil _ _ _ _, fun h => by cases h⟩
theorem below_geB {B : Nat} {w w' : World} (h : Below B w w') : Only (geB B) w w' := ⟨h.os, h.tape, h.output, h.size, fun i hi hn => h.block i (Nat.lt_of_not_le hn)⟩
def WsTo (B g : Nat) (t u : Str) (w : World) (e : Ending) (w' : World) : Prop := e = .returned (.tuple #[.int .i64 ((u.length : Nat) : Int), .nilIface]) ∧ Bld B g (t ++ u) w' ∧ Only (geB B) w w'
theorem ws_v {B g : Nat} {t : Str} {w : World} (h : Bld B g t w) (u : Str) (hl : t.length + u.length ≤ 140737488355328) (hB : B ≤ w.heap.size) : Calls Tryz.prog 98 #[.pointer (some ⟨g, 0, none⟩), strV u] w (WsTo B g t u w) := by
 refine (Tryz.Builder_WriteString B g (Lib.byteCells t) ⟨u.toArray⟩ w h (by rw [Lib.byteCells_length, strV_size]; exact hl) hB).mono ?_
 rintro e w' ⟨rfl, h1, h2⟩
 refine ⟨rfl, .inr ?_, below_geB h2⟩
 rw [Lib.byteCells_append]
 exact h1
def BsTo (B : Nat) (t : Str) (w : World) (e : Ending) (w' : World) : Prop := e = .returned (strV t) ∧ Only (geB B) w w'
theorem bs_v {B g : Nat} {t : Str} {w : World} (h : Bld B g t w) (hB : B ≤ w.heap.size) : Calls Tryz.prog 99 #[.pointer (some ⟨g, 0, none⟩)] w (BsTo B t w) := by
 refine (Tryz.Builder_String_any B g t w h hB).mono ?_
 rintro e w' ⟨rfl, h2⟩
 exact ⟨rfl, below_geB h2⟩
theorem flat_take_le {α : Type} (f : α → Str) (l : List α) (k : Nat) : ((l.take k).flatMap f).length ≤ (l.flatMap f).length := by
 conv => rhs; rw [← List.take_append_drop k l, List.flatMap_append, List.length_append]
 omega
theorem flat_step {α : Type} (f : α → Str) {l : List α} {k : Nat} {x : α} (h : l[k]? = some x) : (l.take (k + 1)).flatMap f = (l.take k).flatMap f ++ f x := by
 rw [take_succ_get h, List.flatMap_append]; simp
end
section
open Go.RowKit
theorem listI_v_ {w : World} {l : List Int} {A1 : Option Addr} {c1 : Nat} (hG : Gr w) (f1 : IntsV w (.slice A1 l.length c1) l) (hl : l.length ≤ 1000000) (hb : (l.flatMap Wr.intE).length ≤ 1000000000) : Calls Tryz.prog 67 [.slice A1 l.length c1, .func (.func 66) #[] #[]].toArray w (Fix (strV (Wr.listE Wr.intE l)) w) := by
 refine calls_start Tryz.func67 rfl rfl ?_
 intro az Z
 rw [Tryz.ntmps67] at Z
 refine wp_seq_k fun _ k1 => wp_region_lit ?_
 refine L (r_as Z rfl) Z rfl ?_; clear Z az; intro az Z
 refine k1 _ _ (wp_seq_k fun _ k2 => wp_region_lit ?_)
 refine LAl (v := .agg #[.pointer none, .slice none (0) 0]) Tryz.zeroValue137 Z rfl rfl ?_
 clear Z az; intro g3 w4 hg7 hl8 o5 B6 az Z
 refine k2 _ _ (wp_seq_k fun _ k9 => wp_region_lit ?_)
 refine L (r_mv Z rfl) Z rfl ?_; clear Z az; intro az Z
 refine L (r_lenL Tryz.underlying30 Z rfl) Z rfl ?_; clear Z az; intro az Z
 have G10 := Gr.k hG o5
 refine LCV (v := strV (Lib.itoa ((l.length : Nat) : Int))) Z rfl rfl Tryz.call68 (itoa_v G10 ((l.length : Nat) : Int) (by unfold Wr.Ok; omega)) rfl fun w11 o12 => ?_; clear Z az; intro az Z
 refine L (r_addS Z rfl rfl (by simp only [List.length_append, List.length_cons, List.length_nil]; have hq := itoa_len ((l.length : Nat) : Int) (by omega) (by omega); omega)) Z rfl ?_; clear Z az; intro az Z
 have B16 := (Blk.k B6 o12)
 have h13 := Bld.new hg7 B16
 have hb14 : w.heap.size ≤ w.heap.size := (Nat.le_refl _)
 have O17 : Only NoF w w11 := (Only.trans' o5 o12)
 have hb15 : w.heap.size ≤ w11.heap.size := (size_only O17)
 have hl21 : List.length (([] : Str)) + List.length (Lib.itoa ((l.length : Nat) : Int) ++ [91]) ≤ 140737488355328 := by have hq := itoa_len ((l.length : Nat) : Int) (by omega) (by omega); simp only [List.length_append, List.length_cons, List.length_nil]; omega
 refine LC Z rfl rfl Tryz.call98 (ws_v h13 (Lib.itoa ((l.length : Nat) : Int) ++ [91]) hl21 hb15) rfl ?_
 rintro e w18 ⟨rfl, h19, o20⟩; refine ⟨_, rfl, ?_⟩
 rw [List.nil_append] at h19
 clear Z az; intro az Z
 refine k9 _ _ (wp_seq_k fun _ k22 => ?_)
 refine wp_seq_k fun _ k23 => wp_region_lit ?_
 refine L (r_mv Z rfl) Z rfl ?_; clear Z az; intro az Z
 refine L (r_lenL Tryz.underlying30 Z rfl) Z rfl ?_; clear Z az; intro az Z
 refine L (r_mv Z rfl) Z rfl ?_; clear Z az; intro az Z
 refine k23 _ _ ?_
 refine wp_block ?_
 refine wp_loop_m (fun mz az W => ∃ k : Nat, mz = l.length - k ∧ Fr 26 [(1, .func (.func 66) #[] #[]), (5, .pointer (some ((⟨g3, 0, none⟩ : Addr)))), (13, .slice A1 (l.length) c1), (14, .int .i64 (((l.length : Nat) : Int))), (15, .int .i64 ((k : Int)))] az ∧ (k ≤ l.length) ∧ Only NoF w W ∧ Bld (w.heap.size) g3 ((Lib.itoa ((List.length (l) : Nat) : Int) ++ [91]) ++ List.flatMap Wr.intE (List.take k l)) W ∧ w.heap.size ≤ W.heap.size) ?_ ?_
 ·
  have O24 := (Only.trans (Only.refl (fun _ => True) w11) o20 (fun _ _ => .inl trivial))
  have O25 : Only NoF w w18 := (o_sg O17 o20 (Nat.le_refl _) (fun _ h => Nat.le_trans hb14 h))
  exact ⟨_, 0, rfl, Z.cut ⟨rfl, rfl, rfl, rfl, rfl, trivial⟩, Nat.zero_le _, O25, (by simpa using h19), (Nat.le_trans hb15 (size_only O24))⟩
 clear Z az
 rintro mz az w26 ⟨k, hm28, Z, hk, o27, hbd, hbw⟩
 have hft := flat_take_le Wr.intE l k
 refine wp_seq_k fun _ k29 => wp_region_lit ?_
 refine L (r_ltI Z rfl rfl) Z rfl ?_; clear Z az; intro az Z
 refine k29 _ _ (wp_seq_k fun _ k30 => ?_)
 refine br Z rfl (fun hc31 => ?_) (fun hc31 => ?_)
 ·
  have p32 := of_decide_eq_true hc31
  refine wp_skip ?_
  refine k30 _ _ (wp_seq_k fun _ k33 => ?_)
  refine wp_block ?_
  refine wp_seq_k fun _ k34 => wp_region_lit ?_
  have hk35 : k < (l).length := by omega
  have h41 := (SliceOf.kp f1 o27 (fun _ _ h => h) (fun _ _ _ _ h => h))
  obtain ⟨m36, hm37, ok38, hA39⟩ := Row.el KInt h41 hk35
  have E40 : ∀ W, Only NoF w26 W → CA W (eA A1 1 (k)) [.int .i64 (m36)] := Row.ce KInt h41 hm37 rfl
  refine L (r_ia (k := k) (size := 1) Tryz.underlying30 Tryz.sizeOf3 Z rfl rfl rfl hk35 hA39) Z rfl ?_; clear Z az; intro az Z
  refine L (r_ld Tryz.isAgg3 Z rfl (CA.first (E40 _ (Only.refl NoF w26)))) Z rfl ?_; clear Z az; intro az Z
  refine L (r_as Z rfl) Z rfl ?_; clear Z az; intro az Z
  refine k34 _ _ ?_
  refine wp_region_lit ?_
  refine L (r_mv Z rfl) Z rfl ?_; clear Z az; intro az Z
  refine L (r_mv Z rfl) Z rfl ?_; clear Z az; intro az Z
  have hst := flat_step Wr.intE hm37
  have hst2 := flat_take_le Wr.intE l (k + 1); rw [hst, List.length_append] at hst2
  have G42 := Gr.k hG o27
  refine LCV (v := strV (Wr.intE m36)) Z rfl rfl Tryz.call66 (Int_v G42 m36 (wr_ok ok38)) rfl fun w43 o44 => ?_; clear Z az; intro az Z
  have h45 := Bld.k hbd o44
  have hl49 : List.length ((Lib.itoa ((List.length (l) : Nat) : Int) ++ [91]) ++ List.flatMap Wr.intE (List.take k l)) + List.length (Wr.intE m36) ≤ 140737488355328 := by have hq := itoa_len ((l.length : Nat) : Int) (by omega) (by omega); simp only [List.length_append, List.length_cons, List.length_nil]; omega
  refine LC Z rfl rfl Tryz.call98 (ws_v h45 (Wr.intE m36) hl49 (Nat.le_trans hbw (size_only o44))) rfl ?_
  rintro e w46 ⟨rfl, h47, o48⟩; refine ⟨_, rfl, ?_⟩
  clear Z az; intro az Z
  refine k33 _ _ ?_
  refine wp_region_lit ?_
  have i50 : I64 (((k : Int) + 1)) := by unfold I64; have hq := itoa_len ((l.length : Nat) : Int) (by omega) (by omega); omega
  refine L (r_addI (r := ((k : Int) + 1)) Z rfl rfl rfl i50) Z rfl ?_; clear Z az; intro az Z
  refine L (r_mv Z rfl) Z rfl ?_; clear Z az; intro az Z
  have O51 := (Only.trans (Only.trans (Only.refl (fun _ => True) w26) o44 (fun _ _ => .inl trivial)) o48 (fun _ _ => .inl trivial))
  have O52 : Only NoF w w46 := (o_sg (Only.trans' o27 o44) o48 (Nat.le_refl _) (fun _ h => Nat.le_trans hb14 h))
  exact ⟨_, (by omega), k + 1, rfl, Z.cut ⟨rfl, rfl, rfl, rfl, rfl, trivial⟩, (by omega), O52, (by rw [hst, ← List.append_assoc]; exact h47), (Nat.le_trans hbw (size_only O51))⟩
 ·
  have p53 := of_decide_eq_false hc31
  refine wp_exit ?_
  refine th_exit ?_
  refine th_exit ?_
  refine ib_hit ?_
  refine k22 _ _ (wp_seq_k fun _ k54 => wp_region_lit ?_)
  refine LC Z rfl rfl Tryz.call99 (bs_v hbd hbw) rfl ?_
  rintro e w55 ⟨rfl, o56⟩; refine ⟨_, rfl, ?_⟩
  clear Z az; intro az Z
  refine L (r_addS Z rfl rfl (by simp only [List.length_append, List.length_cons, List.length_nil]; have hq := itoa_len ((l.length : Nat) : Int) (by omega) (by omega); omega)) Z rfl ?_; clear Z az; intro az Z
  refine L (r_as Z rfl) Z rfl ?_; clear Z az; intro az Z
  refine k54 _ _ ?_
  refine wp_ret ?_
  show bodyPost _ _ _ .ret _ _
  refine ret_of (vs := [strV ((Lib.itoa ((List.length (l) : Nat) : Int) ++ [91]) ++ List.flatMap Wr.intE (List.take k l) ++ [93])]) Z Tryz.results67 ⟨rfl, trivial⟩ ?_
  rw [List.take_of_length_le (show l.length ≤ k by omega)]
  have O57 : Only NoF w w55 := (o_sg o27 o56 (Nat.le_refl _) (fun _ h => Nat.le_trans hb14 h))
  exact ⟨rfl, O57⟩
theorem Nums_v_ {w : World} {l : List Int} {A1 : Option Addr} {c1 : Nat} (hG : Gr w) (f1 : IntsV w (.slice A1 l.length c1) l) (hl : l.length ≤ 1000000) (hb : (l.flatMap Wr.intE).length ≤ 1000000000) : Calls Tryz.prog 45 [.slice A1 l.length c1].toArray w (Fix (strV (Wr.numsE l)) w) := by
 refine calls_start Tryz.func45 rfl rfl ?_
 intro az Z
 rw [Tryz.ntmps45] at Z
 refine wp_seq_k fun _ k1 => wp_region_lit ?_
 refine L (r_as Z rfl) Z rfl ?_; clear Z az; intro az Z
 refine k1 _ _ (wp_seq_k fun _ k2 => wp_region_lit ?_)
 refine L (r_mv Z rfl) Z rfl ?_; clear Z az; intro az Z
 have G3 := Gr.k hG (Only.refl NoF w)
 refine LCV (v := strV (Wr.numsE l)) Z rfl rfl Tryz.call67 (listI_v_ G3 f1 hl hb) rfl fun w4 o5 => ?_; clear Z az; intro az Z
 refine L (r_as Z rfl) Z rfl ?_; clear Z az; intro az Z
 refine k2 _ _ ?_
 refine wp_ret ?_
 show bodyPost _ _ _ .ret _ _
 refine ret_of (vs := [strV (Wr.numsE l)]) Z Tryz.results45 ⟨rfl, trivial⟩ ?_
 exact ⟨rfl, o5⟩
theorem Nums_v {w : World} {v : Value} {l : List Int} (hG : Gr w) (h : IntsV w v l) (hl : l.length ≤ 1000000) (hb : (l.flatMap Wr.intE).length ≤ 1000000000) : Calls Tryz.prog 45 #[v] w (Fix (strV (Wr.numsE l)) w) := by
 obtain ⟨A1, c1, rfl, _⟩ := SliceOf.shape h
 exact Nums_v_ hG h hl hb
end
end Go.Proofs.YtdcbjedkddgfkaaGreatDoor
