/-
  The seal: Decode, walked. Condition: at most 1,000,000 bytes.
-/
import Derived.Test.YtgmnoianhonihaaDoorSW3
import Derived.Test.YtgmnoianhonihaaDoorSW4
import Derived.Test.YtgmnoianhonihaaDoorWW7
namespace Go.Proofs.YtgmnoianhonihaaDoor
set_option linter.unusedVariables false
set_option linter.unusedSimpArgs false
set_option linter.unusedSectionVars false
open Go.RowKit

def lbB (b g : Nat) : Nat → Prop := fun q => q < b ∧ ¬ oneF g q
theorem r_slD {P : Program} {w : World} {n : Nat} {l : List (Nat × Value)} {a : Act} {dst : Option Tmp} {ty : TypeId} {pos : String} {aft : Array Edge} {g : Option (Nat × Bool)} {x : Operand} {t e : TypeId} {size len cap lo m : Nat} {A : Option Addr} {xl : Operand} {zl : Int} (hu : P.underlying t = some (.slice e)) (hs : ∀ w, (sizeOf e).run P w = .ok size w) (H : Fr n l a) (hx : ev l x = some (.slice A len cap)) (hl : ev l xl = some (.int .i64 zl))
    (hz : zl = (lo : Int)) (hle : lo ≤ len) (hm : len - lo = m) :
    (execOp a.eval ⟨dst, .slice t x (some xl) none none, ty, pos, aft, g⟩).run P w = .ok (.value (.slice (slA A cap lo size) m (cap - lo))) w := by
  subst hm
  exact r_sll hu hs H hx hl hz hle
theorem two_step {l : List Int} {a b : Int} (h0 : l[0]? = some a) (h1 : l[1]? = some b) : l = a :: b :: l.drop 2 := by
  match l, h0, h1 with
  | x :: y :: l, h0, h1 => simp at h0 h1; subst h0 h1; rfl
def pairs : List Int → List RM × List Int
  | a :: b :: l => (⟨a, b⟩ :: (pairs l).1, (pairs l).2)
  | l => ([], l)
theorem pairs_flat : ∀ (O : List RM) (R : List Int), R.length ≤ 1 → pairs (flat2 O ++ R) = (O, R)
  | [], [], _ => rfl
  | [], [a], _ => rfl
  | [], a :: b :: R, h => by simp at h
  | r :: O, R, h => by
    show pairs (r.h :: r.n :: (flat2 O ++ R)) = _
    unfold pairs
    rw [pairs_flat O R h]
theorem pairs_of {N : List Int} {O : List RM} {R : List Int} (h : N = flat2 O ++ R) (hR : R.length ≤ 1) : (pairs N).1 = O ∧ (pairs N).2 = R := by
  rw [h, pairs_flat O R hR]; exact ⟨rfl, rfl⟩
abbrev d1 (t : Str) := Wr.num (⟨t, false⟩ : Wr.Rd)
abbrev d2 (t : Str) := Wr.num (d1 t).2
abbrev d3 (t : Str) := Wr.num (d2 t).2
abbrev d4 (t : Str) := Wr.nums (d3 t).2
abbrev d5 (t : Str) := Wr.text (d4 t).2
theorem dfine_0 (t : Str) : Wr.Fine (⟨t, false⟩ : Wr.Rd) := fun h => by cases h
theorem dfine_1 (t : Str) : Wr.Fine (d1 t).2 := Wr.num_fine (dfine_0 t)
theorem dfine_2 (t : Str) : Wr.Fine (d2 t).2 := Wr.num_fine (dfine_1 t)
theorem dfine_3 (t : Str) : Wr.Fine (d3 t).2 := Wr.num_fine (dfine_2 t)
theorem dfine_4 (t : Str) : Wr.Fine (d4 t).2 := Wr.nums_fine (dfine_3 t)
theorem len_of' {s' : Wr.Rd} {s E : Str} (hf : Wr.Fine s') (hw : s'.b = false → s = E ++ s'.r) : s'.r.length ≤ s.length := by
  cases h : s'.b
  · rw [hw h, List.length_append]; omega
  · rw [hf h]; simp
theorem dlen_0 (t : Str) : (⟨t, false⟩ : Wr.Rd).r.length ≤ t.length := Nat.le_refl _
theorem dlen_1 (t : Str) : (d1 t).2.r.length ≤ t.length := len_of' (dfine_1 t) (Wr.num_was _)
theorem dlen_2 (t : Str) : (d2 t).2.r.length ≤ t.length := Nat.le_trans (len_of' (dfine_2 t) (Wr.num_was _)) (dlen_1 t)
theorem dlen_3 (t : Str) : (d3 t).2.r.length ≤ t.length := Nat.le_trans (len_of' (dfine_3 t) (Wr.num_was _)) (dlen_2 t)
theorem dlen_4 (t : Str) : (d4 t).2.r.length ≤ t.length := Nat.le_trans (len_of' (dfine_4 t) (Wr.nums_was _)) (dlen_3 t)
theorem dtxt (t : Str) (h : t.length ≤ 1000000) : (d5 t).1.length ≤ maxLen := by
  have h2 : (d5 t).1.length ≤ (d4 t).2.r.length := Wr.text_val_len (d4 t).2
  have := dlen_4 t
  unfold maxLen; omega
def decN (t : Str) : NM := ⟨(d1 t).1, (d2 t).1, (d3 t).1, none, (pairs (d4 t).1).1, 0, (d5 t).1⟩
def decOk (t : Str) : Bool := !(((!Wr.done (d5 t).2) || decide ((0 : Int) < (((pairs (d4 t).1).2.length : Nat) : Int))) || (!right (decN t)))
theorem dec_ok {t : Str} {O : List RM} {R : List Int} {A : Option Addr} {c : Nat} {b : Bool} (h : (pairs (d4 t).1).1 = O ∧ (pairs (d4 t).1).2 = R)
    (hc : (((!Wr.done (d5 t).2) || decide ((0 : Int) < ((R.length : Nat) : Int))) || (!right ⟨(d1 t).1, (d2 t).1, (d3 t).1, A, O, c, (d5 t).1⟩)) = b) : decOk t = !b := by
  unfold decOk decN
  rw [← hc, h.1, h.2]
  rfl
def DecTo (t : Str) (w : World) (e : Ending) (w' : World) : Prop :=
  ∃ v, e = .returned (.tuple #[v, .bool (decOk t)]) ∧ Only NoF w w' ∧
    ((decOk t = false ∧ v = .agg #[.int .i64 0, .int .i64 0, .int .i64 0, .slice none 0 0, strV []]) ∨
     (decOk t = true ∧ ∃ m : NM, v = noteV m ∧ m.h = (decN t).h ∧ m.n = (decN t).n ∧ m.d = (decN t).d ∧ m.l = (decN t).l ∧ m.s = (decN t).s ∧ (KNote w').ok m ∧ SliceOf (geB w.heap.size) 2 KRef.R w' (.slice m.A m.l.length m.c) m.l))
set_option maxRecDepth 20000 in
set_option maxHeartbeats 4000000 in
theorem Decode_v {w : World} (hG : Gr w) {t : Str} (ht : t.length ≤ 1000000) : Calls Tryd.prog 57 [strV t].toArray w (DecTo t w) := by
  refine calls_start Tryd.func57 rfl rfl ?_
  intro az Hz
  rw [Tryd.ntmps57] at Hz
  refine wp_seq_k fun K1 hK1 => ?_
  -- seal.go:89
  refine wp_region_lit ?_
  refine LAl (v := .agg #[.int .i64 (0), .int .i64 (0), .int .i64 (0), .slice none (0) 0, strV ([])]) Tryd.zeroValue54 Hz rfl rfl ?_
  clear Hz az; intro g2 w3 hg6 hl7 o4 B5 az Hz
  refine L (r_as Hz rfl) Hz rfl ?_
  clear Hz az; intro az Hz
  refine hK1 _ _ ?_
  refine wp_seq_k fun K8 hK8 => ?_
  -- seal.go:90
  refine wp_region_lit ?_
  refine L (r_mv Hz rfl) Hz rfl ?_
  clear Hz az; intro az Hz
  refine LC Hz rfl rfl Tryd.call27 (Open_v _ t) rfl ?_
  rintro e w10 ⟨g9, rfl, hg11, B12, o13⟩; refine ⟨_, rfl, ?_⟩
  clear Hz az; intro az Hz
  refine L (r_as Hz rfl) Hz rfl ?_
  clear Hz az; intro az Hz
  refine hK8 _ _ ?_
  refine wp_seq_k fun K14 hK14 => ?_
  -- seal.go:91
  refine wp_region_lit ?_
  refine LAl (v := .agg #[.int .i64 (0), .int .i64 (0), .int .i64 (0), .slice none (0) 0, strV ([])]) Tryd.zeroValue54 Hz rfl rfl ?_
  clear Hz az; intro g15 w16 hg19 hl20 o17 B18 az Hz
  refine hK14 _ _ ?_
  refine wp_seq_k fun K21 hK21 => ?_
  -- seal.go:92
  refine wp_region_lit ?_
  refine L (r_mv Hz rfl) Hz rfl ?_
  clear Hz az; intro az Hz
  have O23 : Only NoF w w16 := (Only.trans' (Only.trans' o4 o13) o17)
  have G22 := Gr.k hG O23
  have B24 := (Blk.k B12 o17)
  refine LC Hz rfl rfl Tryd.call29 (rNum_v (s := (⟨t, false⟩ : Wr.Rd)) G22 B24 (Nat.le_trans hG.1 (Nat.le_trans (size_only o4) hg11)) (Nat.le_trans (dlen_0 t) (by omega))) rfl ?_
  rintro e w25 ⟨rfl, B26, o27⟩; refine ⟨_, rfl, ?_⟩
  clear Hz az; intro az Hz
  refine L (r_mv Hz rfl) Hz rfl ?_
  clear Hz az; intro az Hz
  have O29 : Only NoF w w25 := (o_sg O23 o27 (size_only o4) (oneF_ge hg11))
  have G28 := Gr.k hG O29
  refine LC Hz rfl rfl Tryd.call29 (rNum_v (s := (Wr.num (⟨t, false⟩ : Wr.Rd)).2) G28 B26 (Nat.le_trans hG.1 (Nat.le_trans (size_only o4) hg11)) (Nat.le_trans (dlen_1 t) (by omega))) rfl ?_
  rintro e w30 ⟨rfl, B31, o32⟩; refine ⟨_, rfl, ?_⟩
  clear Hz az; intro az Hz
  refine L (r_mv Hz rfl) Hz rfl ?_
  clear Hz az; intro az Hz
  have O34 : Only NoF w w30 := (o_sg O29 o32 (size_only o4) (oneF_ge hg11))
  have G33 := Gr.k hG O34
  refine LC Hz rfl rfl Tryd.call29 (rNum_v (s := (Wr.num ((Wr.num (⟨t, false⟩ : Wr.Rd)).2)).2) G33 B31 (Nat.le_trans hG.1 (Nat.le_trans (size_only o4) hg11)) (Nat.le_trans (dlen_2 t) (by omega))) rfl ?_
  rintro e w35 ⟨rfl, B36, o37⟩; refine ⟨_, rfl, ?_⟩
  clear Hz az; intro az Hz
  refine L (r_fa (m' := 0) Tryd.underlying54 rfl Tryd.sizeOf3 rfl Hz rfl rfl) Hz rfl ?_
  clear Hz az; intro az Hz
  have ne38 : g15 ≠ g9 := (ne_of (Blk.lt B12) hg19).symm
  have B39 := (Blk.st (Blk.st (Blk.st B18 o27 ne38) o32 ne38) o37 ne38)
  refine LSt (cs' := [.int .i64 ((Wr.num (⟨t, false⟩ : Wr.Rd)).1), .int .i64 (0), .int .i64 (0), .slice none (0) 0, strV ([])]) Tryd.sizeOf3 Hz rfl rfl rfl rfl rfl ⟨rfl, trivial⟩ B39 rfl rfl fun w40 s41 B42 => ?_
  refine L (r_fa (m' := 1) Tryd.underlying54 rfl Tryd.sizeOf3 rfl Hz rfl rfl) Hz rfl ?_
  clear Hz az; intro az Hz
  refine LSt (cs' := [.int .i64 ((Wr.num (⟨t, false⟩ : Wr.Rd)).1), .int .i64 ((Wr.num ((Wr.num (⟨t, false⟩ : Wr.Rd)).2)).1), .int .i64 (0), .slice none (0) 0, strV ([])]) Tryd.sizeOf3 Hz rfl rfl rfl rfl rfl ⟨rfl, trivial⟩ B42 rfl rfl fun w43 s44 B45 => ?_
  refine L (r_fa (m' := 2) Tryd.underlying54 rfl Tryd.sizeOf3 rfl Hz rfl rfl) Hz rfl ?_
  clear Hz az; intro az Hz
  refine LSt (cs' := [.int .i64 ((Wr.num (⟨t, false⟩ : Wr.Rd)).1), .int .i64 ((Wr.num ((Wr.num (⟨t, false⟩ : Wr.Rd)).2)).1), .int .i64 ((Wr.num ((Wr.num ((Wr.num (⟨t, false⟩ : Wr.Rd)).2)).2)).1), .slice none (0) 0, strV ([])]) Tryd.sizeOf3 Hz rfl rfl rfl rfl rfl ⟨rfl, trivial⟩ B45 rfl rfl fun w46 s47 B48 => ?_
  refine hK21 _ _ ?_
  refine wp_seq_k fun K49 hK49 => ?_
  -- seal.go:93
  refine wp_region_lit ?_
  refine L (r_mv Hz rfl) Hz rfl ?_
  clear Hz az; intro az Hz
  have O58 : Only NoF w w10 := (Only.trans' o4 o13)
  have O59 : Only NoF w w46 := (o_sg (o_sg (o_sg (o_sg O34 o37 (size_only o4) (oneF_ge hg11)) s41 (size_only O58) (oneF_ge hg19)) s44 (size_only O58) (oneF_ge hg19)) s47 (size_only O58) (oneF_ge hg19))
  have G57 := Gr.k hG O59
  have ne60 : g9 ≠ g15 := (ne_of (Blk.lt B12) hg19)
  have B61 := (Blk.st (Blk.st (Blk.st B36 s41 ne60) s44 ne60) s47 ne60)
  refine LC Hz rfl rfl Tryd.call32 (rNums_v (s := (Wr.num ((Wr.num ((Wr.num (⟨t, false⟩ : Wr.Rd)).2)).2)).2) G57 B61 (Nat.le_trans hG.1 (Nat.le_trans (size_only o4) hg11)) (Nat.le_trans (dlen_3 t) (by omega)) (dfine_3 t)) rfl ?_
  rintro e w50 ⟨A53, c54, rfl, r55, k56, B51, o52⟩; refine ⟨_, rfl, ?_⟩
  clear Hz az; intro az Hz
  refine L (r_as Hz rfl) Hz rfl ?_
  clear Hz az; intro az Hz
  refine hK49 _ _ ?_
  refine wp_seq_k fun K62 hK62 => ?_
  -- seal.go:94
  refine wp_region_lit ?_
  refine L (r_mv Hz rfl) Hz rfl ?_
  clear Hz az; intro az Hz
  have O64 : Only NoF w w50 := (o_sg O59 o52 (size_only o4) (oneF_ge hg11))
  have G63 := Gr.k hG O64
  refine LC Hz rfl rfl Tryd.call31 (rText_v (s := (Wr.nums ((Wr.num ((Wr.num ((Wr.num (⟨t, false⟩ : Wr.Rd)).2)).2)).2)).2) G63 B51 (Nat.le_trans hG.1 (Nat.le_trans (size_only o4) hg11)) (Nat.le_trans (dlen_4 t) (by omega))) rfl ?_
  rintro e w65 ⟨rfl, B66, o67⟩; refine ⟨_, rfl, ?_⟩
  clear Hz az; intro az Hz
  refine L (r_fa (m' := 4) Tryd.underlying54 rfl Tryd.sizeOf9 rfl Hz rfl rfl) Hz rfl ?_
  clear Hz az; intro az Hz
  have B68 := (Blk.st (Blk.st B48 o52 ne38) o67 ne38)
  refine LSt (cs' := [.int .i64 ((Wr.num (⟨t, false⟩ : Wr.Rd)).1), .int .i64 ((Wr.num ((Wr.num (⟨t, false⟩ : Wr.Rd)).2)).1), .int .i64 ((Wr.num ((Wr.num ((Wr.num (⟨t, false⟩ : Wr.Rd)).2)).2)).1), .slice none (0) 0, strV ((Wr.text ((Wr.nums ((Wr.num ((Wr.num ((Wr.num (⟨t, false⟩ : Wr.Rd)).2)).2)).2)).2)).1)]) Tryd.sizeOf9 Hz rfl rfl rfl rfl rfl ⟨rfl, trivial⟩ B68 rfl rfl fun w69 s70 B71 => ?_
  refine hK62 _ _ ?_
  refine wp_seq_k fun K72 hK72 => ?_
  refine wp_block ?_
  have hNSl : List.length (d4 t).1 ≤ t.length := (Nat.le_trans (Wr.list_sizes Wr.int_was Wr.intE_ne (d3 t).2).1 (dlen_3 t))
  have O73 := (Only.trans (Only.trans (Only.trans (Only.trans (Only.trans (Only.trans (Only.trans (Only.refl (fun _ => True) w10) o17 (fun _ _ => .inl trivial)) o27 (fun _ _ => .inl trivial)) o32 (fun _ _ => .inl trivial)) o37 (fun _ _ => .inl trivial)) s41 (fun _ _ => .inl trivial)) s44 (fun _ _ => .inl trivial)) s47 (fun _ _ => .inl trivial))
  have O74 := (Only.trans (Only.trans (Only.trans (Only.trans (Only.trans (Only.trans (Only.refl (fun _ => True) w16) o27 (fun _ _ => .inl trivial)) o32 (fun _ _ => .inl trivial)) o37 (fun _ _ => .inl trivial)) s41 (fun _ _ => .inl trivial)) s44 (fun _ _ => .inl trivial)) s47 (fun _ _ => .inl trivial))
  have r75 := (ow_only (ow_only r55 o67 (fun k hk => ge_F (oneF_lt (Blk.lt B12)) (size_only O73) k (ownF_ge r55 k hk))) s70 (fun k hk => ge_F (oneF_lt hl20) (size_only O74) k (ownF_ge (ow_only r55 o67 (fun k hk => ge_F (oneF_lt (Blk.lt B12)) (size_only O73) k (ownF_ge r55 k hk))) k hk)))
  have fr0 := SliceOf.sup (SliceOf.rg (Row.own KInt r75 k56)) (S' := lbB w69.heap.size g15) (fun q hq => ⟨hq.2, fun h => by have h1 := Nat.lt_of_lt_of_le (Nat.lt_of_lt_of_le hl20 (size_only O74)) hq.1; unfold oneF at h; omega⟩)
  refine wp_loop_m (fun mz az W => ∃ R : List Int, ∃ Ar : Option Addr, ∃ cr : Nat, ∃ O : List RM, ∃ Ao : Option Addr, ∃ co : Nat, mz = R.length ∧ Fr 55 [(2, .pointer (some ((⟨g2, 0, none⟩ : Addr)))), (4, .pointer (some ((⟨g9, 0, none⟩ : Addr)))), (5, .pointer (some ((⟨g15, 0, none⟩ : Addr)))), (6, .slice Ar (R.length) cr)] az ∧ ((d4 t).1 = flat2 O ++ R) ∧ (∀ z ∈ O, KRef.ok z) ∧ Only (oneF g15) w69 W ∧ Blk W g15 54 [.int .i64 ((Wr.num (⟨t, false⟩ : Wr.Rd)).1), .int .i64 ((Wr.num ((Wr.num (⟨t, false⟩ : Wr.Rd)).2)).1), .int .i64 ((Wr.num ((Wr.num ((Wr.num (⟨t, false⟩ : Wr.Rd)).2)).2)).1), .slice Ao (O.length) co, strV ((Wr.text ((Wr.nums ((Wr.num ((Wr.num ((Wr.num (⟨t, false⟩ : Wr.Rd)).2)).2)).2)).2)).1)].toArray ∧ SliceOf (lbB w69.heap.size g15) 1 KInt.R W (.slice Ar R.length cr) R ∧ W.ownsRow w69.heap.size 71 2 (.slice Ao O.length co) O.length (List.flatMap KRef.cells O)) ?_ ?_
  · -- start
    exact ⟨_, _, _, _, [], none, 0, rfl, Hz.cut ⟨rfl, rfl, rfl, rfl, trivial⟩, rfl, (fun z hz => by cases hz), (Only.refl (oneF g15) w69), B71, fr0, (World.ownsRow_nil _ _ _ _)⟩
  clear Hz az
  rintro mz az w76 ⟨R, Ar, cr, O, Ao, co, hm78, Hz, hns, okO, o77, B79, fr, rO⟩
  have hOl : 2 * O.length + R.length = List.length (d4 t).1 := by rw [hns, List.length_append, flat2_len]
  refine wp_seq_k fun K80 hK80 => ?_
  refine wp_seq_k fun K81 hK81 => ?_
  -- seal.go:95
  refine wp_region_lit ?_
  refine L (r_mv Hz rfl) Hz rfl ?_
  clear Hz az; intro az Hz
  refine L (r_lenL Tryd.underlying22 Hz rfl) Hz rfl ?_
  clear Hz az; intro az Hz
  refine L (r_gtI Hz rfl rfl) Hz rfl ?_
  clear Hz az; intro az Hz
  refine hK81 _ _ ?_
  refine br Hz rfl (fun hc82 => ?_) (fun hc82 => ?_)
  · -- if0
    have p83 := of_decide_eq_true hc82
    refine wp_skip ?_
    refine hK80 _ _ ?_
    refine wp_block ?_
    refine wp_seq_k fun K84 hK84 => ?_
    -- seal.go:96
    refine reg_p (orF (ownF (.slice Ao (O.length) co)) (oneF g15)) 1 [9, 10, 12] (.rd 0 (.rd 1 (.rd 2 (.rd 3 (.rd 4 (.rd 5 (.rd 6 (.rd 7 (.rd 8 (.ex 9 (.ex 10 (.rd 11 (.ex 12 .nil))))))))))))) (by kernel_rfl) (by kernel_rfl) (fun _ _ _ _ _ h => h) fun w85 o86 => ?_
    have B87 := (Blk.k B79 o86)
    refine Pl.MSP (b := false) (by kernel_rfl) (fun W oW => r_fa (m' := 3) Tryd.underlying54 rfl Tryd.sizeOf52 rfl Hz rfl rfl) Hz rfl rfl ?_
    clear Hz az; intro az Hz
    refine Pl.MSP (b := true) (by kernel_rfl) (fun W oW => r_ld Tryd.isAgg52 Hz rfl ((Blk.ca (Blk.k B87 oW)) 3 _ rfl)) Hz rfl rfl ?_
    clear Hz az; intro az Hz
    refine Pl.MSP (b := false) (by kernel_rfl) (fun W oW => r_mv Hz rfl) Hz rfl rfl ?_
    clear Hz az; intro az Hz
    have hk88 : 0 < (R).length := by omega
    have h94 := (SliceOf.kp fr o86 (fun _ _ h => h) (fun _ _ _ _ h => h))
    obtain ⟨m89, hm90, ok91, hA92⟩ := Row.el KInt h94 hk88
    have E93 : ∀ W, Only NoF w85 W → CA W (eA Ar 1 (0)) [.int .i64 (m89)] := Row.ce KInt h94 hm90 rfl
    refine Pl.MSP (b := false) (by kernel_rfl) (fun W oW => r_ia (k := 0) (size := 1) Tryd.underlying22 Tryd.sizeOf3 Hz rfl rfl rfl hk88 hA92) Hz rfl rfl ?_
    clear Hz az; intro az Hz
    refine Pl.MSP (b := false) (by kernel_rfl) (fun W oW => r_ld Tryd.isAgg3 Hz rfl (CA.first (Row.ce KInt (SliceOf.kp h94 oW (fun k hk h => h.elim (fun h => Nat.lt_irrefl _ (Nat.lt_of_lt_of_le hk.1 ((ownF_ge rO) k h))) (fun h => hk.2 h)) (fun _ _ _ _ h => h)) hm90 rfl _ (Only.refl NoF _)))) Hz rfl rfl ?_
    clear Hz az; intro az Hz
    refine Pl.MSP (b := false) (by kernel_rfl) (fun W oW => r_mv Hz rfl) Hz rfl rfl ?_
    clear Hz az; intro az Hz
    have hk95 : 1 < (R).length := by omega
    obtain ⟨m96, hm97, ok98, hA99⟩ := Row.el KInt h94 hk95
    have E100 : ∀ W, Only NoF w85 W → CA W (eA Ar 1 (1)) [.int .i64 (m96)] := Row.ce KInt h94 hm97 rfl
    refine Pl.MSP (b := false) (by kernel_rfl) (fun W oW => r_ia (k := 1) (size := 1) Tryd.underlying22 Tryd.sizeOf3 Hz rfl rfl rfl hk95 hA99) Hz rfl rfl ?_
    clear Hz az; intro az Hz
    refine Pl.MSP (b := false) (by kernel_rfl) (fun W oW => r_ld Tryd.isAgg3 Hz rfl (CA.first (Row.ce KInt (SliceOf.kp h94 oW (fun k hk h => h.elim (fun h => Nat.lt_irrefl _ (Nat.lt_of_lt_of_le hk.1 ((ownF_ge rO) k h))) (fun h => hk.2 h)) (fun _ _ _ _ h => h)) hm97 rfl _ (Only.refl NoF _)))) Hz rfl rfl ?_
    clear Hz az; intro az Hz
    refine Pl.MSP (b := true) (by kernel_rfl) (fun W oW => r_bd (v := .agg #[.int .i64 (m89), .int .i64 (m96)]) (build_Ref2 _ _) Hz rfl) Hz rfl rfl ?_
    clear Hz az; intro az Hz
    obtain ⟨A101, w102, hw, hA, r103, o104⟩ := Row.made (w := w85) KRef (e := 71) ([(⟨m89, m96⟩ : RM)] : List RM) (by simp only [List.length_cons, List.length_nil]; unfold maxLen; omega)
    refine Pl.MD (r_bs (z := .agg #[.int .i64 (0), .int .i64 (0)]) (size := 2) (vs := [(0, .agg #[.int .i64 (m89), .int .i64 (m96)])]) (cs := List.flatMap KRef.cells [(⟨m89, m96⟩ : RM)]) Tryd.underlying52 Tryd.sizeOf71 Tryd.zeroValue71 rfl (Fr.evalps Hz rfl) (by kernel_rfl)) Hz rfl rfl ?_ ?_
    · rw [← hw]; exact ⟨fun _ => o104, (Only.trans (Only.refl (orF (ownF (.slice Ao (O.length) co)) (oneF g15)) w85) o104 (fun _ h => h.elim))⟩
    rw [← hw, ← hA]; clear Hz az; intro az Hz
    clear hw hA
    have ok105 : ∀ zq ∈ ([(⟨m89, m96⟩ : RM)] : List RM), KRef.ok zq := by intro zq hx; simp only [List.mem_cons, List.not_mem_nil, or_false] at hx; rcases hx with rfl <;> first | exact ⟨ok91, ok98⟩
    have r106 := (ow_k (ow_k rO o86) o104)
    have h107 := Row.own KRef r103 ok105
    have h108 := SliceOf.pl h107
    have hb116 : (List.length (O) + List.length ([(⟨m89, m96⟩ : RM)])) * 16 ≤ 140737488355328 := by simp only [List.length_cons, List.length_nil]; omega
    have O117 := (Only.trans (Only.trans (Only.trans (Only.refl (fun _ => True) w69) o77 (fun _ _ => .inl trivial)) o86 (fun _ _ => .inl trivial)) o104 (fun _ _ => .inl trivial))
    obtain ⟨A109, c110, w111, hr112, r113, o114, al115⟩ := Row.app (P := Tryd.prog) (l := O) (l2 := [(⟨m89, m96⟩ : RM)]) KRef elemRef r106 h108 hb116 (by unfold maxLen; omega) (size_only O117)
    refine Pl.MD (r_app hr112 Hz rfl rfl) Hz rfl rfl ?_ ?_
    · exact ⟨fun h => absurd h (by decide), (Only.trans (Only.trans (Only.refl (orF (ownF (.slice Ao (O.length) co)) (oneF g15)) w85) o104 (fun _ h => h.elim)) o114 (fun _ h => .inl (.inl h)))⟩
    clear Hz az; intro az Hz
    have ok118 : ∀ zq ∈ (O ++ [(⟨m89, m96⟩ : RM)]), KRef.ok zq := (fun x hx => (List.mem_append.1 hx).elim (okO x) ((Row.oks KRef h108) x))
    have h119 := Row.own KRef r113 ok118
    refine Pl.MSP (b := false) (by kernel_rfl) (fun W oW => r_fa (m' := 3) Tryd.underlying54 rfl Tryd.sizeOf52 rfl Hz rfl rfl) Hz rfl rfl ?_
    clear Hz az; intro az Hz
    have B120 := (Blk.only (Blk.k B87 o104) o114 (ow_nb r106 (Blk.k B87 o104) (by decide)))
    refine Pl.MSS (cs' := [.int .i64 ((Wr.num (⟨t, false⟩ : Wr.Rd)).1), .int .i64 ((Wr.num ((Wr.num (⟨t, false⟩ : Wr.Rd)).2)).1), .int .i64 ((Wr.num ((Wr.num ((Wr.num (⟨t, false⟩ : Wr.Rd)).2)).2)).1), .slice A109 (((O ++ [(⟨m89, m96⟩ : RM)])).length) c110, strV ((Wr.text ((Wr.nums ((Wr.num ((Wr.num ((Wr.num (⟨t, false⟩ : Wr.Rd)).2)).2)).2)).2)).1)]) Tryd.sizeOf52 Hz rfl rfl rfl rfl rfl rfl ⟨rfl, trivial⟩ B120 rfl rfl fun w121 s122 B123 => ?_
    refine ⟨⟨fun h => absurd h (by decide), (Only.trans (Only.trans (Only.trans (Only.refl (orF (ownF (.slice Ao (O.length) co)) (oneF g15)) w85) o104 (fun _ h => h.elim)) o114 (fun _ h => .inl (.inl h))) s122 (fun _ h => .inl (.inr h)))⟩, ?_⟩
    refine wpPl_nil ?_
    refine hK84 _ _ ?_
    -- seal.go:97
    refine wp_region_lit ?_
    refine L (r_mv Hz rfl) Hz rfl ?_
    clear Hz az; intro az Hz
    have hl124 : 2 + (List.drop 2 R).length ≤ (R).length := by rw [List.length_drop]; omega
    have h126 := (SliceOf.kp (SliceOf.kp (SliceOf.kp h94 o104 (fun _ _ h => h) (fun _ _ _ _ h => h)) o114 (fun k hk h => Nat.lt_irrefl _ (Nat.lt_of_lt_of_le hk.1 ((ownF_ge rO) k h))) (fun _ _ _ _ h => h)) s122 (fun k hk h => hk.2 h) (fun _ _ _ _ h => h))
    have h125 := SliceOf.sub (lo := 2) (m := (List.drop 2 R).length) h126 rfl hl124
    rw [List.take_length] at h125
    refine L (r_slD (lo := 2) (m := (List.drop 2 R).length) (size := 1) Tryd.underlying22 Tryd.sizeOf3 Hz rfl rfl rfl (by omega) List.length_drop.symm) Hz rfl ?_
    clear Hz az; intro az Hz
    refine L (r_as Hz rfl) Hz rfl ?_
    clear Hz az; intro az Hz
    have hR2 := two_step hm90 hm97
    have O127 := (Only.trans (Only.trans (Only.trans (Only.trans (Only.trans (Only.trans (Only.trans (Only.trans (Only.trans (Only.refl (fun _ => True) w16) o27 (fun _ _ => .inl trivial)) o32 (fun _ _ => .inl trivial)) o37 (fun _ _ => .inl trivial)) s41 (fun _ _ => .inl trivial)) s44 (fun _ _ => .inl trivial)) s47 (fun _ _ => .inl trivial)) o52 (fun _ _ => .inl trivial)) o67 (fun _ _ => .inl trivial)) s70 (fun _ _ => .inl trivial))
    have r128 := (ow_only r113 s122 (fun k hk => ge_F (oneF_lt hl20) (size_only O127) k (ownF_ge r113 k hk)))
    exact ⟨_, (by rw [List.length_drop]; omega), (R.drop 2), (slA Ar cr 2 1), (cr - 2), _, A109, c110, rfl, Hz.cut ⟨rfl, rfl, rfl, rfl, trivial⟩, (by rw [hns, hR2]; unfold flat2; rw [List.flatMap_append]; simp), ok118, (Only.trans (Only.trans (Only.trans (Only.trans (Only.trans (Only.refl (oneF g15) w69) o77 (fun _ h => .inl h)) o86 (fun _ h => h.elim)) o104 (fun _ h => h.elim)) o114 (fun k h => .inr (Nat.le_trans (Nat.le_refl _) ((ownF_ge rO) k h)))) s122 (fun _ h => .inl h)), B123, h125, (ow_low r128 (Nat.le_refl _))⟩
  · -- else0
    have p129 := of_decide_eq_false hc82
    refine wp_exit ?_
    refine th_exit ?_
    refine th_exit ?_
    refine ib_hit ?_
    refine hK72 _ _ ?_
    refine wp_seq_k fun K130 hK130 => ?_
    refine wp_seq_k fun K131 hK131 => ?_
    -- seal.go:99
    refine wp_region_lit ?_
    refine L (r_mv Hz rfl) Hz rfl ?_
    clear Hz az; intro az Hz
    have B132 := (Blk.st (Blk.st B66 s70 ne60) o77 ne60)
    refine LCV (v := .bool (Wr.done ((Wr.text ((Wr.nums ((Wr.num ((Wr.num ((Wr.num (⟨t, false⟩ : Wr.Rd)).2)).2)).2)).2)).2))) Hz rfl rfl Tryd.call35 (rDone_v (s := (Wr.text ((Wr.nums ((Wr.num ((Wr.num ((Wr.num (⟨t, false⟩ : Wr.Rd)).2)).2)).2)).2)).2) B132) rfl fun w133 o134 => ?_
    clear Hz az; intro az Hz
    refine L (r_not Hz rfl) Hz rfl ?_
    clear Hz az; intro az Hz
    refine L (r_mv Hz rfl) Hz rfl ?_
    clear Hz az; intro az Hz
    refine LG Hz rfl rfl gd_f (fun hb => r_mv Hz rfl) rfl ?_
    clear Hz az; intro az Hz
    refine LG Hz rfl rfl gd_f (fun hb => r_lenL Tryd.underlying22 Hz (evg hb rfl)) rfl ?_
    clear Hz az; intro az Hz
    refine LG Hz rfl rfl gd_f (fun hb => r_gtI Hz (evg hb rfl) rfl) rfl ?_
    clear Hz az; intro az Hz
    refine L (r_or Hz rfl rfl rfl) Hz rfl ?_
    clear Hz az; intro az Hz
    refine L (r_mv Hz rfl) Hz rfl ?_
    clear Hz az; intro az Hz
    have B135 := (Blk.k B79 o134)
    refine LG Hz rfl rfl gd_f (fun hb => r_ldA Tryd.isAgg54 Tryd.sizeOf54 Hz rfl (Blk.ca B135) rfl) rfl ?_
    clear Hz az; intro az Hz
    have h136 := Row.own KRef rO okO
    have h137 := (SliceOf.kp h136 o134 (fun _ _ h => h) (fun _ _ _ _ h => h))
    have h138 := SliceOf.pl h137
    refine LGV (v := .bool (right (⟨(Wr.num (⟨t, false⟩ : Wr.Rd)).1, (Wr.num ((Wr.num (⟨t, false⟩ : Wr.Rd)).2)).1, (Wr.num ((Wr.num ((Wr.num (⟨t, false⟩ : Wr.Rd)).2)).2)).1, Ao, O, co, (Wr.text ((Wr.nums ((Wr.num ((Wr.num ((Wr.num (⟨t, false⟩ : Wr.Rd)).2)).2)).2)).2)).1⟩ : NM))) Hz rfl rfl gd_f rfl (fun hb => (evs_c (evg hb rfl) rfl)) Tryd.call62 (fun hb => Right_v (m := (⟨(Wr.num (⟨t, false⟩ : Wr.Rd)).1, (Wr.num ((Wr.num (⟨t, false⟩ : Wr.Rd)).2)).1, (Wr.num ((Wr.num ((Wr.num (⟨t, false⟩ : Wr.Rd)).2)).2)).1, Ao, O, co, (Wr.text ((Wr.nums ((Wr.num ((Wr.num ((Wr.num (⟨t, false⟩ : Wr.Rd)).2)).2)).2)).2)).1⟩ : NM)) h138) rfl fun w139 o140 => ?_
    clear Hz az; intro az Hz
    refine LG Hz rfl rfl gd_f (fun hb => r_not Hz (evg hb rfl)) rfl ?_
    clear Hz az; intro az Hz
    refine L (r_or Hz rfl rfl rfl) Hz rfl ?_
    clear Hz az; intro az Hz
    refine hK131 _ _ ?_
    refine br Hz rfl (fun hc141 => ?_) (fun hc141 => ?_)
    · -- if1
      have d142 := hc141
      refine wp_seq_k fun K143 hK143 => ?_
      -- seal.go:100
      refine wp_region_lit ?_
      refine L (r_bd (v := .agg #[.int .i64 (0), .int .i64 (0), .int .i64 (0), .slice none (0) 0, strV ([])]) (build_Note0) Hz rfl) Hz rfl ?_
      clear Hz az; intro az Hz
      have ne144 : g2 ≠ g9 := (ne_of hl7 hg11)
      have ne145 : g2 ≠ g15 := (ne_of hl7 (Nat.le_trans (size_only o13) hg19))
      have B146 := (Blk.k (Blk.k (Blk.st (Blk.st (Blk.st (Blk.st (Blk.st (Blk.st (Blk.st (Blk.st (Blk.st (Blk.st (Blk.k (Blk.k B5 o13) o17) o27 ne144) o32 ne144) o37 ne144) s41 ne145) s44 ne145) s47 ne145) o52 ne144) o67 ne144) s70 ne145) o77 ne145) o134) o140)
      refine LSt (cs' := [.int .i64 (0), .int .i64 (0), .int .i64 (0), .slice none (0) 0, strV ([])]) Tryd.sizeOf54 Hz rfl rfl rfl rfl rfl ⟨rfl, rfl, rfl, rfl, rfl, trivial⟩ B146 rfl rfl fun w147 s148 B149 => ?_
      refine L (r_as Hz rfl) Hz rfl ?_
      clear Hz az; intro az Hz
      refine hK143 _ _ ?_
      refine wp_ret ?_
      show bodyPost _ _ _ .ret _ _
      refine ret_of (vs := [.agg #[.int .i64 (0), .int .i64 (0), .int .i64 (0), .slice none (0) 0, strV ([])], .bool (false)]) Hz Tryd.results57 ⟨⟨_, rfl, l_ca Tryd.isAgg54 Tryd.sizeOf54 (Blk.ca B149) rfl⟩, rfl, trivial⟩ ?_
      have O150 : Only NoF w w147 := (o_sg (Only.trans' (Only.trans' (o_sg (o_sg (o_sg O64 o67 (size_only o4) (oneF_ge hg11)) s70 (size_only O58) (oneF_ge hg19)) o77 (size_only O58) (oneF_ge hg19)) o134) o140) s148 (Nat.le_refl _) (oneF_ge hg6))
      have hpr := pairs_of hns (by omega)
      have hdo := dec_ok (t := t) hpr hc141
      exact ⟨_, by rw [hdo]; rfl, O150, .inl ⟨hdo, rfl⟩⟩
    · -- else1
      have q151 : Wr.done ((Wr.text ((Wr.nums ((Wr.num ((Wr.num ((Wr.num (⟨t, false⟩ : Wr.Rd)).2)).2)).2)).2)).2) = true := (nt_f (or_f (or_f hc141).1).1)
      have p152 := of_decide_eq_false (or_f (or_f hc141).1).2
      have q153 : right (⟨(Wr.num (⟨t, false⟩ : Wr.Rd)).1, (Wr.num ((Wr.num (⟨t, false⟩ : Wr.Rd)).2)).1, (Wr.num ((Wr.num ((Wr.num (⟨t, false⟩ : Wr.Rd)).2)).2)).1, Ao, O, co, (Wr.text ((Wr.nums ((Wr.num ((Wr.num ((Wr.num (⟨t, false⟩ : Wr.Rd)).2)).2)).2)).2)).1⟩ : NM) = true := (nt_f (or_f hc141).2)
      refine wp_skip ?_
      refine hK130 _ _ ?_
      refine wp_seq_k fun K154 hK154 => ?_
      -- seal.go:102
      refine wp_region_lit ?_
      have B155 := (Blk.k B135 o140)
      refine L (r_ldA Tryd.isAgg54 Tryd.sizeOf54 Hz rfl (Blk.ca B155) rfl) Hz rfl ?_
      clear Hz az; intro az Hz
      have ne156 : g2 ≠ g9 := (ne_of hl7 hg11)
      have ne157 : g2 ≠ g15 := (ne_of hl7 (Nat.le_trans (size_only o13) hg19))
      have B158 := (Blk.k (Blk.k (Blk.st (Blk.st (Blk.st (Blk.st (Blk.st (Blk.st (Blk.st (Blk.st (Blk.st (Blk.st (Blk.k (Blk.k B5 o13) o17) o27 ne156) o32 ne156) o37 ne156) s41 ne157) s44 ne157) s47 ne157) o52 ne156) o67 ne156) s70 ne157) o77 ne157) o134) o140)
      refine LSt (cs' := [.int .i64 ((Wr.num (⟨t, false⟩ : Wr.Rd)).1), .int .i64 ((Wr.num ((Wr.num (⟨t, false⟩ : Wr.Rd)).2)).1), .int .i64 ((Wr.num ((Wr.num ((Wr.num (⟨t, false⟩ : Wr.Rd)).2)).2)).1), .slice Ao (O.length) co, strV ((Wr.text ((Wr.nums ((Wr.num ((Wr.num ((Wr.num (⟨t, false⟩ : Wr.Rd)).2)).2)).2)).2)).1)]) Tryd.sizeOf54 Hz rfl rfl rfl rfl rfl ⟨rfl, rfl, rfl, rfl, rfl, trivial⟩ B158 rfl rfl fun w159 s160 B161 => ?_
      refine L (r_as Hz rfl) Hz rfl ?_
      clear Hz az; intro az Hz
      refine hK154 _ _ ?_
      refine wp_ret ?_
      show bodyPost _ _ _ .ret _ _
      refine ret_of (vs := [.agg #[.int .i64 ((Wr.num (⟨t, false⟩ : Wr.Rd)).1), .int .i64 ((Wr.num ((Wr.num (⟨t, false⟩ : Wr.Rd)).2)).1), .int .i64 ((Wr.num ((Wr.num ((Wr.num (⟨t, false⟩ : Wr.Rd)).2)).2)).1), .slice Ao (O.length) co, strV ((Wr.text ((Wr.nums ((Wr.num ((Wr.num ((Wr.num (⟨t, false⟩ : Wr.Rd)).2)).2)).2)).2)).1)], .bool (true)]) Hz Tryd.results57 ⟨⟨_, rfl, l_ca Tryd.isAgg54 Tryd.sizeOf54 (Blk.ca B161) rfl⟩, rfl, trivial⟩ ?_
      have O162 : Only NoF w w159 := (o_sg (Only.trans' (Only.trans' (o_sg (o_sg (o_sg O64 o67 (size_only o4) (oneF_ge hg11)) s70 (size_only O58) (oneF_ge hg19)) o77 (size_only O58) (oneF_ge hg19)) o134) o140) s160 (Nat.le_refl _) (oneF_ge hg6))
      have hpr := pairs_of hns (by omega)
      have hdo := dec_ok (t := t) hpr hc141
      have O163 : Only NoF w3 w69 := (o_sg (o_sg (o_sg (o_sg (o_sg (o_sg (o_sg (o_sg (o_sg (Only.trans' o13 o17) o27 (Nat.le_refl _) (oneF_ge hg11)) o32 (Nat.le_refl _) (oneF_ge hg11)) o37 (Nat.le_refl _) (oneF_ge hg11)) s41 (size_only o13) (oneF_ge hg19)) s44 (size_only o13) (oneF_ge hg19)) s47 (size_only o13) (oneF_ge hg19)) o52 (Nat.le_refl _) (oneF_ge hg11)) o67 (Nat.le_refl _) (oneF_ge hg11)) s70 (size_only o13) (oneF_ge hg19))
      have r164 := (ow_only (ow_k (ow_k rO o134) o140) s160 (fun k hk => ge_F (oneF_lt hl7) (size_only O163) k (ownF_ge (ow_k (ow_k rO o134) o140) k hk)))
      have O165 : Only NoF w w69 := (o_sg (o_sg O64 o67 (size_only o4) (oneF_ge hg11)) s70 (size_only O58) (oneF_ge hg19))
      exact ⟨noteV (⟨(Wr.num (⟨t, false⟩ : Wr.Rd)).1, (Wr.num ((Wr.num (⟨t, false⟩ : Wr.Rd)).2)).1, (Wr.num ((Wr.num ((Wr.num (⟨t, false⟩ : Wr.Rd)).2)).2)).1, Ao, O, co, (Wr.text ((Wr.nums ((Wr.num ((Wr.num ((Wr.num (⟨t, false⟩ : Wr.Rd)).2)).2)).2)).2)).1⟩ : NM), by rw [hdo]; rfl, O162, .inr ⟨hdo, (⟨(Wr.num (⟨t, false⟩ : Wr.Rd)).1, (Wr.num ((Wr.num (⟨t, false⟩ : Wr.Rd)).2)).1, (Wr.num ((Wr.num ((Wr.num (⟨t, false⟩ : Wr.Rd)).2)).2)).1, Ao, O, co, (Wr.text ((Wr.nums ((Wr.num ((Wr.num ((Wr.num (⟨t, false⟩ : Wr.Rd)).2)).2)).2)).2)).1⟩ : NM), rfl, rfl, rfl, rfl, hpr.1.symm, rfl, ⟨(ok_wr (Wr.number_int _ _ _)), (ok_wr (Wr.number_int _ _ _)), (ok_wr (Wr.number_int _ _ _)), (SliceOf.pl (Row.own KRef r164 okO)), (dtxt t (by omega))⟩, (SliceOf.sup (Row.own KRef r164 okO) (fun k hk => Nat.le_trans (size_only O165) hk))⟩⟩
end Go.Proofs.YtgmnoianhonihaaDoor
