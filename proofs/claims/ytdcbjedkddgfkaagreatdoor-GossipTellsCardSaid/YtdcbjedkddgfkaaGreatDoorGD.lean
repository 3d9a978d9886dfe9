/-
  Gossip: what run keeps, in plain Lean. No condition.
  Gossip: Order, Heads, walked. Condition: the listed variables; at most 1,000,000 notes.
  Gossip: less, Talk, walked. Condition: the listed variables; at most 1,000,000 notes.
  Gossip: Talk, walked. Condition: the listed variables; at most 1,000,000 notes.
-/
import Derived.Test.YtdcbjedkddgfkaaGreatDoorGC
namespace Go.Proofs.YtdcbjedkddgfkaaGreatDoor
set_option maxHeartbeats 4000000
set_option maxRecDepth 20000
set_option linter.unusedVariables false
set_option linter.unusedSimpArgs false
set_option linter.unusedSectionVars false
section
open Go.RowKit
/-- a house, none of its notes taken -/
def HM.z (y : HM) : HM := ⟨y.h, y.p, y.f, 0⟩
section
variable {hs : List HM} {q : Nat} {y : HM}
theorem put_z (hy : hs[q]? = some y) : (putN hs q y).map HM.z = hs.map HM.z := by
 unfold putN
 rw [List.map_set]
 apply List.ext_getElem?
 intro i
 rw [List.getElem?_set]
 split
 · rename_i e
   subst e
   have hl := (List.getElem?_eq_some_iff.1 hy).1
   rw [if_pos (by rw [List.length_map]; exact hl), List.getElem?_map, hy]
   rfl
 · rfl
theorem put_t (h : ∀ x ∈ hs, x.t ≤ x.p.length) {m : NM} (hm : nxt y = some m) : ∀ x ∈ putN hs q y, x.t ≤ x.p.length := by
 intro x hx
 rcases List.mem_or_eq_of_mem_set hx with e | e
 · exact h x e
 · subst e
   have := (List.getElem?_eq_some_iff.1 hm).1
   show y.t + 1 ≤ y.p.length
   omega
end
theorem run_keep : ∀ (f : Nat) (hs : List HM) (out : List NM), (∀ x ∈ hs, x.t ≤ x.p.length) → (runF f hs out).1.map HM.z = hs.map HM.z ∧ ∀ x ∈ (runF f hs out).1, x.t ≤ x.p.length
 | 0, hs, out, h => ⟨rfl, h⟩
 | f + 1, hs, out, h => by
  unfold runF
  split
  · exact ⟨rfl, h⟩
  · split
    · exact ⟨rfl, h⟩
    · rename_i y hy
      split
      · exact ⟨rfl, h⟩
      · rename_i m hm
        obtain ⟨h1, h2⟩ := run_keep f (putN hs _ y) (out ++ [m]) (put_t h hm)
        exact ⟨h1.trans (put_z hy), h2⟩
theorem past_400 (l : List NM) : (pastN l).length ≤ 400 := by
 have key : ∀ n, (l.take (dwnN l n)).length ≤ 400 := by
  intro n
  induction n with
  | zero => unfold dwnN; simp
  | succ n ih =>
   unfold dwnN
   split
   · rename_i h; exact check_len h
   · exact ih
 exact key _
theorem hou_t : ∀ (f : Nat) (J : List NM) (x : HM), x ∈ housesF f J → x.t = 0 ∧ x.p.length ≤ 400
 | 0, J, x, h => by unfold housesF at h; cases h
 | f + 1, [], x, h => by unfold housesF at h; cases h
 | f + 1, a :: r, x, h => by
  unfold housesF at h
  rcases List.mem_cons.1 h with e | e
  · subst e; exact ⟨rfl, past_400 _⟩
  · exact hou_t f _ x e
theorem run_houses (J : List NM) : (runN J).1.map HM.z = (houN J).map HM.z ∧ ∀ x ∈ (runN J).1, x.t ≤ x.p.length :=
 run_keep _ _ _ fun x hx => by have := (hou_t _ _ x hx).1; omega
theorem runH_ok {l : List NM} {x : HM} (hx : x ∈ (runN (joinN l)).1) : I64 x.h ∧ x.t ≤ 400 := by
 obtain ⟨h1, h2⟩ := run_houses (joinN l)
 have h3 : x.z ∈ (houN (joinN l)).map HM.z := by rw [← h1]; exact List.mem_map_of_mem hx
 obtain ⟨y, hy, e⟩ := List.mem_map.1 h3
 have e1 : (HM.z y).h = (HM.z x).h := by rw [e]
 change y.h = x.h at e1
 have e2 : (HM.z y).p = (HM.z x).p := by rw [e]
 change y.p = x.p at e2
 obtain ⟨m, h4, h5⟩ := hou_mem _ _ y hy
 have h6 := (right_ok (join_good l m h4).1).1.1
 have h7 := (hou_t _ _ y hy).2
 have h8 := h2 x hx
 rw [e2] at h7
 unfold Wr.Ok at h6
 unfold I64
 constructor
 · rw [← e1, h5]; omega
 · omega
/-- what Heads says of a row of houses -/
def headH (H : List HM) : List RM := (H.filter fun y => decide (0 < y.t)).map fun y => ⟨y.h, (y.t : Int)⟩
theorem headN_eq (J : List NM) : headsN J = headH (runN J).1 := rfl
theorem hd_len (H : List HM) : (headH H).length ≤ H.length := by unfold headH; rw [List.length_map]; exact List.length_filter_le _ _
section
variable {H : List HR} {k : Nat} {m : HR}
theorem hd_yes (hm' : H[k]? = some m) (e : decide ((0 : Int) < (m.t : Int)) = true) : headH ((H.take (k + 1)).map hm) = headH ((H.take k).map hm) ++ [⟨m.h, (m.t : Int)⟩] := by
 have e2 : 0 < (hm m).t := by have := of_decide_eq_true e; show 0 < m.t; omega
 unfold headH
 rw [take_succ_get hm', List.map_append, List.filter_append, List.map_append]
 simp [e2]
 exact ⟨rfl, rfl⟩
theorem hd_no (hm' : H[k]? = some m) (e : decide ((0 : Int) < (m.t : Int)) = false) : headH ((H.take (k + 1)).map hm) = headH ((H.take k).map hm) := by
 have e2 : ¬ 0 < (hm m).t := by have := of_decide_eq_false e; show ¬ 0 < m.t; omega
 unfold headH
 rw [take_succ_get hm', List.map_append, List.filter_append, List.map_append]
 simp [e2]
end
/-- a row of references that comes back -/
def ROut (N : List RM) (w : World) (e : Ending) (w' : World) : Prop := ∃ A c, e = .returned (.slice A N.length c) ∧ w'.ownsRow w.heap.size 59 2 (.slice A N.length c) N.length (N.flatMap KRef.cells) ∧ (∀ r ∈ N, KRef.ok r) ∧ Only NoF w w'
end
section
open Go.RowKit
section
variable {H : List HR} {l : List NM} {N : List HM × List NM} {O : List NM} {k : Nat} {m : HR}
theorem hd_oks (h : (H.map hm, O.map ns) = runN (joinN l)) : ∀ r ∈ headH ((H.take k).map hm), KRef.ok r := by
 intro r hr
 obtain ⟨y, hy, rfl⟩ := List.mem_map.1 hr
 have h1 : y ∈ H.map hm := by
  have := (List.mem_filter.1 hy).1
  rw [List.map_take] at this
  exact List.mem_of_mem_take this
 have h2 : H.map hm = (runN (joinN l)).1 := by rw [← h]
 rw [h2] at h1
 obtain ⟨a, b⟩ := runH_ok h1
 refine ⟨a, ?_⟩
 show I64 (y.t : Int)
 unfold I64
 omega
theorem hd_ok1 (h : (H.map hm, O.map ns) = runN (joinN l)) (hm' : H[k]? = some m) : KRef.ok ⟨m.h, (m.t : Int)⟩ := by
 have h2 : H.map hm = (runN (joinN l)).1 := by rw [← h]
 obtain ⟨a, b⟩ := runH_ok (l := l) (x := hm m) (by rw [← h2]; exact List.mem_map_of_mem (List.mem_of_getElem? hm'))
 refine ⟨a, ?_⟩
 have b2 : m.t ≤ 400 := b
 show I64 (m.t : Int)
 unfold I64
 omega
theorem hd_oks2 {R : List RM} (h : (H.map hm, O.map ns) = runN (joinN l)) (hO : R = headH ((H.take k).map hm)) : ∀ r ∈ R, KRef.ok r := fun r hr => by
 rw [hO] at hr
 exact hd_oks h r hr
end
theorem hd_bnd {H : List HR} {l O : List NM} (hl : l.length ≤ 1000000) (h : (H.map hm, O.map ns) = runN (joinN l)) : H.length ≤ 1000000 := by
 have h1 := congrArg List.length (congrArg Prod.fst h)
 have h2 := congrArg List.length (run_houses (joinN l)).1
 rw [List.length_map, List.length_map] at h2
 simp only [List.length_map] at h1
 have h3 := hou_len (joinN l)
 have h4 := joinN_le l
 omega
theorem Order_v_ {w : World} (hG : Gr w) {l : List NM} {A : Option Addr} {c : Nat} (t : NtV w (.slice A l.length c) l) (hl : l.length ≤ 1000000) : Calls Tryz.prog 17 [.slice A l.length c].toArray w (NOut (orderN (joinN l)) w) := by
 refine calls_start Tryz.func17 rfl rfl ?_
 intro az Z
 rw [Tryz.ntmps17] at Z
 refine wp_seq_k fun _ k1 => wp_region_lit ?_
 refine L (r_as Z rfl) Z rfl ?_; clear Z az; intro az Z
 refine k1 _ _ (wp_seq_k fun _ k2 => wp_region_lit ?_)
 refine L (r_mv Z rfl) Z rfl ?_; clear Z az; intro az Z
 have G14 := Gr.k hG (Only.refl NoF w)
 refine LC Z rfl rfl Tryz.call41 (run_v_ G14 t hl) rfl ?_
 rintro e w3 ⟨A5, c6, H7, A8, c9, O10, rfl, hN11, hH12, hO13, o4⟩; refine ⟨_, rfl, ?_⟩
 clear Z az; intro az Z
 refine L (r_mv Z rfl) Z rfl ?_; clear Z az; intro az Z
 refine L (r_ex Z rfl rfl) Z rfl ?_; clear Z az; intro az Z
 refine L (r_ex Z rfl rfl) Z rfl ?_; clear Z az; intro az Z
 refine L (r_as Z rfl) Z rfl ?_; clear Z az; intro az Z
 refine L (r_as Z rfl) Z rfl ?_; clear Z az; intro az Z
 refine k2 _ _ (wp_seq_k fun _ k15 => wp_region_lit ?_)
 refine L (r_mv Z rfl) Z rfl ?_; clear Z az; intro az Z
 refine L (r_as Z rfl) Z rfl ?_; clear Z az; intro az Z
 refine k15 _ _ ?_
 refine wp_ret ?_
 show bodyPost _ _ _ .ret _ _
 refine ret_of (vs := [.slice A8 (O10.length) c9]) Z Tryz.results17 ⟨rfl, trivial⟩ ?_
 have h16 := NtS.k hO13 (Only.refl NoF w3)
 exact ⟨_, _, O10, rfl, congrArg Prod.snd hN11, SliceOf.sup h16.1 (fun k hk => Nat.le_trans (Nat.le_refl _) hk), OkNs.sup h16.2 (fun k hk => Nat.le_trans (Nat.le_refl _) hk), o4⟩
theorem Heads_v_ {w : World} (hG : Gr w) {l : List NM} {A : Option Addr} {c : Nat} (t : NtV w (.slice A l.length c) l) (hl : l.length ≤ 1000000) : Calls Tryz.prog 20 [.slice A l.length c].toArray w (ROut (headsN (joinN l)) w) := by
 refine calls_start Tryz.func20 rfl rfl ?_
 intro az Z
 rw [Tryz.ntmps20] at Z
 refine wp_seq_k fun _ k1 => wp_region_lit ?_
 refine L (r_as Z rfl) Z rfl ?_; clear Z az; intro az Z
 refine k1 _ _ (wp_seq_k fun _ k2 => wp_region_lit ?_)
 refine L (r_mv Z rfl) Z rfl ?_; clear Z az; intro az Z
 have G14 := Gr.k hG (Only.refl NoF w)
 refine LC Z rfl rfl Tryz.call41 (run_v_ G14 t hl) rfl ?_
 rintro e w3 ⟨A5, c6, H7, A8, c9, O10, rfl, hN11, hH12, hO13, o4⟩; refine ⟨_, rfl, ?_⟩
 clear Z az; intro az Z
 have hHl : H7.length ≤ 1000000 := hd_bnd hl hN11
 refine L (r_mv Z rfl) Z rfl ?_; clear Z az; intro az Z
 refine L (r_ex Z rfl rfl) Z rfl ?_; clear Z az; intro az Z
 refine L (r_ex Z rfl rfl) Z rfl ?_; clear Z az; intro az Z
 refine L (r_as Z rfl) Z rfl ?_; clear Z az; intro az Z
 refine L (r_as Z rfl) Z rfl ?_; clear Z az; intro az Z
 refine k2 _ _ (wp_seq_k fun _ k15 => wp_region_lit ?_)
 refine L (r_as Z rfl) Z rfl ?_; clear Z az; intro az Z
 refine k15 _ _ (wp_seq_k fun _ k16 => ?_)
 refine wp_seq_k fun _ k17 => wp_region_lit ?_
 refine L (r_mv Z rfl) Z rfl ?_; clear Z az; intro az Z
 refine L (r_lenL Tryz.underlying66 Z rfl) Z rfl ?_; clear Z az; intro az Z
 refine L (r_mv Z rfl) Z rfl ?_; clear Z az; intro az Z
 refine k17 _ _ ?_
 refine wp_block ?_
 refine wp_loop_m (fun mz az W => ∃ k : Nat, ∃ O : List RM, ∃ Ao : Option Addr, ∃ co : Nat, mz = H7.length - k ∧ Fr 32 [(13, .slice A5 (H7.length) c6), (14, .int .i64 (((H7.length : Nat) : Int))), (15, .int .i64 ((k : Int))), (5, .slice Ao (O.length) co)] az ∧ (k ≤ H7.length) ∧ (O = headH ((H7.take k).map hm)) ∧ Only NoF w3 W ∧ W.ownsRow w3.heap.size 59 2 (.slice Ao O.length co) O.length (List.flatMap KRef.cells O)) ?_ ?_
 ·
  have hHl : H7.length ≤ 1000000 := hd_bnd hl hN11
  exact ⟨_, 0, [], none, 0, rfl, Z.cut ⟨rfl, rfl, rfl, rfl, trivial⟩, Nat.zero_le _, rfl, (Only.refl NoF w3), (World.ownsRow_nil _ _ _ _)⟩
 clear Z az
 rintro mz az w18 ⟨k, O, Ao, co, hm20, Z, hk, hO, o19, rO⟩
 have hOl : O.length ≤ H7.length := by rw [hO]; exact Nat.le_trans (hd_len _) (by rw [List.length_map, List.length_take]; omega)
 refine wp_seq_k fun _ k21 => wp_region_lit ?_
 refine L (r_ltI Z rfl rfl) Z rfl ?_; clear Z az; intro az Z
 refine k21 _ _ (wp_seq_k fun _ k22 => ?_)
 refine br Z rfl (fun hc23 => ?_) (fun hc23 => ?_)
 ·
  have p24 := of_decide_eq_true hc23
  refine wp_skip ?_
  refine k22 _ _ (wp_seq_k fun _ k25 => ?_)
  refine wp_block ?_
  refine wp_seq_k fun _ k26 => wp_region_lit ?_
  have hk27 : k < (H7).length := by omega
  have h33 := (SliceOf.kp hH12 o19 (fun _ _ h => h) (fun _ _ _ _ h => h))
  obtain ⟨m28, hm29, ok30, hA31⟩ := Row.el KH0 h33 hk27
  have E32 : ∀ W, Only NoF w18 W → CA W (eA A5 4 (k)) [.int .i64 (m28.h), .slice m28.A (m28.p.length) m28.c, .bool (m28.f), .int .i64 ((m28.t : Int))] := Row.ce KH0 h33 hm29 rfl
  refine L (r_ia (k := k) (size := 4) Tryz.underlying66 Tryz.sizeOf69 Z rfl rfl rfl hk27 hA31) Z rfl ?_; clear Z az; intro az Z
  refine L (r_ldA Tryz.isAgg69 Tryz.sizeOf69 Z rfl (E32 _ (Only.refl NoF w18)) rfl) Z rfl ?_; clear Z az; intro az Z
  refine LAl (v := .agg #[.int .i64 (0), .slice none (0) 0, .bool (false), .int .i64 (0)]) Tryz.zeroValue69 Z rfl rfl ?_
  clear Z az; intro g34 w35 hg38 hl39 o36 B37 az Z
  refine LSt (cs' := [.int .i64 (m28.h), .slice m28.A (m28.p.length) m28.c, .bool (m28.f), .int .i64 ((m28.t : Int))]) Tryz.sizeOf69 Z rfl rfl rfl rfl rfl ⟨rfl, rfl, rfl, rfl, trivial⟩ B37 rfl rfl fun w40 s41 B42 => ?_
  refine k26 _ _ (wp_seq_k fun _ k43 => wp_region_lit ?_)
  refine L (r_fa (m' := 3) Tryz.underlying69 rfl Tryz.sizeOf3 rfl Z rfl rfl) Z rfl ?_; clear Z az; intro az Z
  refine L (r_ld Tryz.isAgg3 Z rfl ((Blk.ca B42) 3 _ rfl)) Z rfl ?_; clear Z az; intro az Z
  refine L (r_gtI Z rfl rfl) Z rfl ?_; clear Z az; intro az Z
  refine k43 _ _ ?_
  refine br Z rfl (fun hc44 => ?_) (fun hc44 => ?_)
  ·
   have p45 := of_decide_eq_true hc44
   refine wp_region_lit ?_
   refine L (r_mv Z rfl) Z rfl ?_; clear Z az; intro az Z
   refine L (r_fa (m' := 0) Tryz.underlying69 rfl Tryz.sizeOf3 rfl Z rfl rfl) Z rfl ?_; clear Z az; intro az Z
   refine L (r_ld Tryz.isAgg3 Z rfl ((Blk.ca B42) 0 _ rfl)) Z rfl ?_; clear Z az; intro az Z
   refine L (r_fa (m' := 3) Tryz.underlying69 rfl Tryz.sizeOf3 rfl Z rfl rfl) Z rfl ?_; clear Z az; intro az Z
   refine L (r_ld Tryz.isAgg3 Z rfl ((Blk.ca B42) 3 _ rfl)) Z rfl ?_; clear Z az; intro az Z
   refine L (r_bd (v := .agg #[.int .i64 (m28.h), .int .i64 ((m28.t : Int))]) (build_Ref2 _ _) Z rfl) Z rfl ?_; clear Z az; intro az Z
   obtain ⟨A46, w47, hw, hA, r48, o49⟩ := Row.made (w := w40) KRef (e := 59) ([(⟨m28.h, (m28.t : Int)⟩ : RM)] : List RM) (by simp only [List.length_cons, List.length_nil]; unfold maxLen; omega)
   refine L (r_bs (z := .agg #[.int .i64 (0), .int .i64 (0)]) (size := 2) (vs := [(0, .agg #[.int .i64 (m28.h), .int .i64 ((m28.t : Int))])]) (cs := List.flatMap KRef.cells [(⟨m28.h, (m28.t : Int)⟩ : RM)]) Tryz.underlying35 Tryz.sizeOf59 Tryz.zeroValue59 rfl (Fr.evalps Z rfl) (by kernel_rfl)) Z rfl ?_
   rw [← hw, ← hA]; clear Z az; intro az Z
   clear hw hA
   have ok50 : ∀ zq ∈ ([(⟨m28.h, (m28.t : Int)⟩ : RM)] : List RM), KRef.ok zq := by intro zq hx; simp only [List.mem_cons, List.not_mem_nil, or_false] at hx; rcases hx with rfl <;> first | exact (hd_ok1 hN11 hm29)
   have r51 := (ow_k (ow_only (ow_k rO o36) s41 (fun k hk => lt_F (oneF_ge hg38) (Nat.le_refl _) k (ownF_lt rO k hk))) o49)
   have h52 := SliceOf.pl (Row.own KRef r48 ok50)
   have hb60 : (List.length (O) + List.length ([(⟨m28.h, (m28.t : Int)⟩ : RM)])) * 16 ≤ 140737488355328 := by (simp only [List.length_append, List.length_cons, List.length_nil]; omega)
   have O61 : Only NoF w3 w47 := (Only.trans' (o_sg (Only.trans' o19 o36) s41 (size_only o19) (oneF_ge hg38)) o49)
   obtain ⟨A53, c54, w55, hr56, r57, o58, al59⟩ := Row.app (P := Tryz.prog) (l := O) (l2 := [(⟨m28.h, (m28.t : Int)⟩ : RM)]) KRef elemRef r51 h52 hb60 (by unfold maxLen; omega) (size_only O61)
   refine L (r_app hr56 Z rfl rfl) Z rfl ?_; clear Z az; intro az Z
   have ok62 : ∀ zq ∈ (O ++ [(⟨m28.h, (m28.t : Int)⟩ : RM)]), KRef.ok zq := (fun x hx => (List.mem_append.1 hx).elim ((hd_oks2 hN11 hO) x) ((Row.oks KRef h52) x))
   have h63 := Row.own KRef r57 ok62
   refine L (r_as Z rfl) Z rfl ?_; clear Z az; intro az Z
   refine k25 _ _ ?_
   refine wp_region_lit ?_
   have i64 : I64 (((k : Int) + 1)) := by unfold I64; omega
   refine L (r_addI (r := ((k : Int) + 1)) Z rfl rfl rfl i64) Z rfl ?_; clear Z az; intro az Z
   refine L (r_mv Z rfl) Z rfl ?_; clear Z az; intro az Z
   have O65 : Only NoF w3 w55 := (o_sg O61 o58 (Nat.le_refl _) (ownF_ge rO))
   exact ⟨_, (by omega), k + 1, _, A53, c54, rfl, Z.cut ⟨rfl, rfl, rfl, rfl, trivial⟩, (by omega), (by rw [hO, hd_yes hm29 hc44]), O65, r57⟩
  ·
   have p66 := of_decide_eq_false hc44
   refine wp_skip ?_
   refine k25 _ _ ?_
   refine wp_region_lit ?_
   have i67 : I64 (((k : Int) + 1)) := by unfold I64; omega
   refine L (r_addI (r := ((k : Int) + 1)) Z rfl rfl rfl i67) Z rfl ?_; clear Z az; intro az Z
   refine L (r_mv Z rfl) Z rfl ?_; clear Z az; intro az Z
   have O68 : Only NoF w3 w40 := (o_sg (Only.trans' o19 o36) s41 (size_only o19) (oneF_ge hg38))
   have r69 := (ow_only (ow_k rO o36) s41 (fun k hk => lt_F (oneF_ge hg38) (Nat.le_refl _) k (ownF_lt rO k hk)))
   exact ⟨_, (by omega), k + 1, O, Ao, co, rfl, Z.cut ⟨rfl, rfl, rfl, rfl, trivial⟩, (by omega), (by rw [hO, hd_no hm29 hc44]), O68, r69⟩
 ·
  have p70 := of_decide_eq_false hc23
  refine wp_exit ?_
  refine th_exit ?_
  refine th_exit ?_
  refine ib_hit ?_
  refine k16 _ _ (wp_seq_k fun _ k71 => wp_region_lit ?_)
  refine L (r_mv Z rfl) Z rfl ?_; clear Z az; intro az Z
  refine L (r_as Z rfl) Z rfl ?_; clear Z az; intro az Z
  refine k71 _ _ ?_
  refine wp_ret ?_
  show bodyPost _ _ _ .ret _ _
  refine ret_of (vs := [.slice Ao (O.length) co]) Z Tryz.results20 ⟨rfl, trivial⟩ ?_
  have hok := hd_oks2 hN11 hO
  rw [List.take_of_length_le (by omega), show H7.map hm = (runN (joinN l)).1 from congrArg Prod.fst hN11, ← headN_eq] at hO; subst hO
  have O72 : Only NoF w w18 := (Only.trans' o4 o19)
  exact ⟨_, _, rfl, ow_low rO (size_only o4), hok, O72⟩
end
section
open Go.RowKit
/-- an item's own place -/
abbrev ltI (x : NM) : NM → Bool := fun y => decide (cmpN y x < 0)
/-- items that stand in order -/
def SrtI (B : List NM) : Prop := SortedN (B.map ns) ∧ ∀ m ∈ B, right m = true
theorem srt_lt {B : List NM} (h : SrtI B) {i j : Nat} {a b : NM} (hij : i < j) (ha : B[i]? = some a) (hb : B[j]? = some b) : cmpN a b < 0 := by
 obtain ⟨a1, a2⟩ := List.getElem?_eq_some_iff.1 ha
 obtain ⟨b1, b2⟩ := List.getElem?_eq_some_iff.1 hb
 have h1 := List.pairwise_iff_getElem.1 h.1 i j (by rw [List.length_map]; exact a1) (by rw [List.length_map]; exact b1) hij
 rw [List.getElem_map, List.getElem_map, a2, b2, cmpN_ns] at h1
 exact h1
theorem preI {B : List NM} {x : NM} (h : SrtI B) : PreP (ltI x) B := by
 intro i j a b hij ha hb e
 rcases Nat.lt_or_ge i j with h1 | h1
 · exact decide_eq_true (cmpN_trans (srt_lt h h1 ha hb) (of_decide_eq_true e))
 · have : i = j := by omega
   subst this
   rw [ha] at hb
   injection hb with hb
   subst hb; exact e
/-- what BinarySearchFunc says of items -/
def BsiTo (x : NM) (B : List NM) (w : World) (e : Ending) (w' : World) : Prop := ∃ i : Int, ∃ b : Bool, e = .returned (.tuple #[.int .i64 i, .bool b]) ∧ (b = true ↔ ns x ∈ B.map ns) ∧ Only NoF w w'
theorem in_yes {B : List NM} {x y : NM} {i : Nat} (hi : B[i]? = some y) (e : ns y = ns x) : ns x ∈ B.map ns := by
 rw [← e]; exact List.mem_map_of_mem (List.mem_of_getElem? hi)
theorem in_no {B : List NM} {x : NM} {i : Nat} (h : SrtI B) (hlo : ∀ (q : Nat) (y : NM), q < i → B[q]? = some y → ltI x y = true) (hhi : ∀ (q : Nat) (y : NM), i ≤ q → B[q]? = some y → ltI x y = false) (hn : ∀ y : NM, B[i]? = some y → ¬ cmpN y x = 0) : ¬ ns x ∈ B.map ns := by
 intro hx
 obtain ⟨y, hy, e⟩ := List.mem_map.1 hx
 obtain ⟨q, hq⟩ := List.getElem?_of_mem hy
 have e2 : cmpN y x = 0 := by rw [← cmpN_ns, e]; exact cmpN_irrefl _
 rcases Nat.lt_or_ge q i with h1 | h1
 · have := of_decide_eq_true (hlo q y h1 hq); omega
 · rcases Nat.lt_or_ge i q with h2 | h2
   · have hl := (List.getElem?_eq_some_iff.1 hq).1
     have hz : B[i]? = some (B[i]'(by omega)) := List.getElem?_eq_getElem (by omega)
     have h3 := srt_lt h h2 hz hq
     have h4 := of_decide_eq_false (hhi i _ (Nat.le_refl _) hz)
     have h5 : cmpN (B[i]'(by omega)) x = cmpN (B[i]'(by omega)) y := by
      have := cmpN_zero.1 e2
      unfold cmpN; rw [this.1, this.2.1, this.2.2]
     omega
   · have : q = i := by omega
     subst this; exact hn y hq e2
def lessI (L B : List NM) : List NM := L.filter fun x => decide (¬ ns x ∈ B.map ns)
def lessN (J K : List NM) : List NM := J.filter fun x => decide (¬ x ∈ K)
section
variable {L B : List NM} {k : Nat} {m : NM} {b : Bool}
theorem le_yes (hm : L[k]? = some m) (hb : b = true ↔ ns m ∈ B.map ns) (e : (!b) = true) : lessI (L.take (k + 1)) B = lessI (L.take k) B ++ [m] := by
 have : ¬ ns m ∈ B.map ns := fun h => by rw [hb.2 h] at e; cases e
 unfold lessI
 rw [take_succ_get hm, List.filter_append]
 simp only [List.filter_cons, List.filter_nil]
 rw [decide_eq_true this]; rfl
theorem le_no (hm : L[k]? = some m) (hb : b = true ↔ ns m ∈ B.map ns) (e : (!b) = false) : lessI (L.take (k + 1)) B = lessI (L.take k) B := by
 have : ns m ∈ B.map ns := hb.1 (by cases b <;> simp at e ⊢)
 unfold lessI
 rw [take_succ_get hm, List.filter_append]
 simp only [List.filter_cons, List.filter_nil]
 rw [decide_eq_false (fun h => h this)]
 simp
theorem le_len : (lessI L B).length ≤ L.length := List.length_filter_le _ _
theorem le_map {J K : List NM} (h1 : L.map ns = J) (h2 : B.map ns = K) : (lessI L B).map ns = lessN J K := by
 unfold lessI lessN
 rw [← h1, ← h2, List.filter_map]
 rfl
end
theorem bsi_v {w : World} (hG : Gr w) {B : List NM} {A : Option Addr} {c : Nat} (f1 : SliceOf AllB 5 KN0.R w (.slice A B.length c) B) (hok : OkNs AllB w B) (hS : SrtI B) {x : NM} (hr : right x = true) (hx : okN AllB w x) (hl : B.length ≤ 1000000) : Calls Tryz.prog 55 [.slice A B.length c, .agg #[.int .i64 x.h, .int .i64 x.n, .int .i64 x.d, .slice x.A x.l.length x.c, strV x.s], .func (.func 54) #[] #[]].toArray w (BsiTo x B w) := by
 refine calls_start Tryz.func55 rfl rfl ?_
 intro az Z
 rw [Tryz.ntmps55] at Z
 refine wp_seq_k fun _ k1 => wp_region_lit ?_
 refine LBox Z rfl rfl rfl ?_
 clear Z az; intro g2 w3 hg6 hl7 o4 B5 az Z
 refine L (r_as Z rfl) Z rfl ?_; clear Z az; intro az Z
 refine L (r_as Z rfl) Z rfl ?_; clear Z az; intro az Z
 refine k1 _ _ (wp_seq_k fun _ k8 => wp_region_lit ?_)
 refine L (r_mv Z rfl) Z rfl ?_; clear Z az; intro az Z
 refine L (r_lenL Tryz.underlying60 Z rfl) Z rfl ?_; clear Z az; intro az Z
 refine L (r_as Z rfl) Z rfl ?_; clear Z az; intro az Z
 refine k8 _ _ (wp_seq_k fun _ k9 => wp_region_lit ?_)
 refine L (r_mv Z rfl) Z rfl ?_; clear Z az; intro az Z
 refine L (r_as Z rfl) Z rfl ?_; clear Z az; intro az Z
 refine L (r_as Z rfl) Z rfl ?_; clear Z az; intro az Z
 refine k9 _ _ (wp_seq_k fun _ k10 => ?_)
 refine wp_block ?_
 refine wp_loop_m (fun mz az W => ∃ i : Nat, ∃ j : Nat, mz = j - i ∧ Fr 49 [(0, .slice A (B.length) c), (2, .func (.func 54) #[] #[]), (4, .pointer (some ((⟨g2, 0, none⟩ : Addr)))), (8, .int .i64 (((B.length : Nat) : Int))), (9, .int .i64 ((i : Int))), (10, .int .i64 ((j : Int)))] az ∧ (i ≤ j ∧ j ≤ B.length) ∧ (∀ (q : Nat) (y : NM), q < i → B[q]? = some y → ltI x y = true) ∧ (∀ (q : Nat) (y : NM), j ≤ q → B[q]? = some y → ltI x y = false) ∧ Only NoF w3 W) ?_ ?_
 ·
  exact ⟨_, 0, B.length, rfl, Z.cut ⟨rfl, rfl, rfl, rfl, rfl, rfl, trivial⟩, ⟨Nat.zero_le _, Nat.le_refl _⟩, (fun q y h => absurd h (Nat.not_lt_zero _)), (fun q y h1 h2 => absurd (List.getElem?_eq_some_iff.1 h2).1 (by omega)), (Only.refl NoF w3)⟩
 clear Z az
 rintro mz az w11 ⟨i, j, hm13, Z, hij, hlo, hhi, o12⟩
 refine wp_seq_k fun _ k14 => ?_
 refine wp_seq_k fun _ k15 => wp_region_lit ?_
 refine L (r_mv Z rfl) Z rfl ?_; clear Z az; intro az Z
 refine L (r_mv Z rfl) Z rfl ?_; clear Z az; intro az Z
 refine L (r_ltI Z rfl rfl) Z rfl ?_; clear Z az; intro az Z
 refine k15 _ _ ?_
 refine br Z rfl (fun hc16 => ?_) (fun hc16 => ?_)
 ·
  have p17 := of_decide_eq_true hc16
  refine wp_skip ?_
  refine k14 _ _ ?_
  refine wp_block ?_
  refine wp_seq_k fun _ k18 => wp_region_lit ?_
  refine L (r_mv Z rfl) Z rfl ?_; clear Z az; intro az Z
  refine L (r_mv Z rfl) Z rfl ?_; clear Z az; intro az Z
  have i19 : I64 (((i : Int) + (j : Int))) := by unfold I64; omega
  refine L (r_addI (r := ((i : Int) + (j : Int))) Z rfl rfl rfl i19) Z rfl ?_; clear Z az; intro az Z
  refine L (r_cvU Tryz.underlying3 Tryz.underlying130 Z rfl (by omega)) Z rfl ?_; clear Z az; intro az Z
  refine L (r_shr1 (r := (((i + j) / 2 : Nat) : Int)) Z rfl rfl (by omega)) Z rfl ?_; clear Z az; intro az Z
  refine L (r_cvS Tryz.underlying130 Tryz.underlying3 Z rfl (by omega)) Z rfl ?_; clear Z az; intro az Z
  refine L (r_as Z rfl) Z rfl ?_; clear Z az; intro az Z
  refine k18 _ _ (wp_seq_k fun _ k20 => ?_)
  refine reg_p NoF 1 [6] (.rd 0 (.rd 1 (.rd 2 (.rd 3 (.rd 4 (.rd 5 (.ex 6 (.rd 7 .nil)))))))) (by kernel_rfl) (by kernel_rfl) (fun _ _ _ _ _ h => h) fun w21 o22 => ?_
  have B23 := (Blk.k (Blk.k B5 o12) o22)
  refine Pl.MSP (b := true) (by kernel_rfl) (fun W oW => r_mv Z rfl) Z rfl rfl ?_; clear Z az; intro az Z
  refine Pl.MSP (b := true) (by kernel_rfl) (fun W oW => r_mv Z rfl) Z rfl rfl ?_; clear Z az; intro az Z
  refine Pl.MSP (b := true) (by kernel_rfl) (fun W oW => r_mv Z rfl) Z rfl rfl ?_; clear Z az; intro az Z
  have hk24 : ((i + j) / 2) < (B).length := by omega
  have O30 : Only NoF w w21 := (Only.trans' (Only.trans' o4 o12) o22)
  have h31 := (SliceOf.kp f1 O30 (fun _ _ h => h) (fun _ _ _ _ h => h))
  obtain ⟨m25, hm26, ok27, hA28⟩ := Row.el KN0 h31 hk24
  have E29 : ∀ W, Only NoF w21 W → CA W (eA A 5 (((i + j) / 2))) [.int .i64 (m25.h), .int .i64 (m25.n), .int .i64 (m25.d), .slice m25.A (m25.l.length) m25.c, strV (m25.s)] := Row.ce KN0 h31 hm26 rfl
  refine Pl.MSP (b := true) (by kernel_rfl) (fun W oW => r_ia (k := ((i + j) / 2)) (size := 5) Tryz.underlying60 Tryz.sizeOf95 Z rfl rfl rfl hk24 hA28) Z rfl rfl ?_; clear Z az; intro az Z
  refine Pl.MSP (b := true) (by kernel_rfl) (fun W oW => r_ldA Tryz.isAgg95 Tryz.sizeOf95 Z rfl (E29 _ (Only.trans' (Only.refl NoF w21) oW)) rfl) Z rfl rfl ?_; clear Z az; intro az Z
  refine Pl.MSP (b := true) (by kernel_rfl) (fun W oW => r_ldA Tryz.isAgg95 Tryz.sizeOf95 Z rfl (Blk.ca (Blk.k B23 oW)) rfl) Z rfl rfl ?_; clear Z az; intro az Z
  have G32 := Gr.k hG O30
  refine Pl.MSV (v := .int .i64 ((cmpN m25 x))) Z rfl rfl rfl Tryz.call54 (cmp_v G32 (hS.2 _ (List.mem_of_getElem? hm26)) hr (okN.k (hok _ (List.mem_of_getElem? hm26)) O30) (okN.k hx O30)) rfl (fun w' o' => ⟨fun _ => o', (Only.trans (Only.refl NoF w21) o' (fun _ h => h.elim))⟩) fun w33 o34 => ?_; clear Z az; intro az Z
  refine Pl.MSP (b := true) (by kernel_rfl) (fun W oW => r_ltI Z rfl rfl) Z rfl rfl ?_; clear Z az; intro az Z
  refine wpPl_nil ?_
  refine k20 _ _ ?_
  refine br Z rfl (fun hc35 => ?_) (fun hc35 => ?_)
  ·
   have p36 := of_decide_eq_true hc35
   refine wp_region_lit ?_
   refine L (r_mv Z rfl) Z rfl ?_; clear Z az; intro az Z
   have i37 : I64 (((((i + j) / 2 : Nat) : Int) + 1)) := by unfold I64; omega
   refine L (r_addI (r := ((((i + j) / 2 : Nat) : Int) + 1)) Z rfl rfl rfl i37) Z rfl ?_; clear Z az; intro az Z
   refine L (r_as Z rfl) Z rfl ?_; clear Z az; intro az Z
   have O38 : Only NoF w3 w33 := (Only.trans' (Only.trans' o12 o22) o34)
   exact ⟨_, (by omega), (i + j) / 2 + 1, j, rfl, Z.cut ⟨rfl, rfl, rfl, rfl, rfl, rfl, trivial⟩, (by omega), (lo_up (preI hS) hm26 hc35), hhi, O38⟩
  ·
   have p39 := of_decide_eq_false hc35
   refine wp_region_lit ?_
   refine L (r_mv Z rfl) Z rfl ?_; clear Z az; intro az Z
   refine L (r_as Z rfl) Z rfl ?_; clear Z az; intro az Z
   have O40 : Only NoF w3 w33 := (Only.trans' (Only.trans' o12 o22) o34)
   exact ⟨_, (by omega), i, (i + j) / 2, rfl, Z.cut ⟨rfl, rfl, rfl, rfl, rfl, rfl, trivial⟩, (by omega), hlo, (lo_dn (preI hS) hm26 hc35), O40⟩
 ·
  have p41 := of_decide_eq_false hc16
  have hje : j = i := by omega
  rw [hje] at hhi
  refine wp_exit ?_
  refine th_exit ?_
  refine th_exit ?_
  refine ib_hit ?_
  refine k10 _ _ (wp_seq_k fun _ k42 => ?_)
  rcases Nat.lt_or_ge i B.length with hi | hi
  ·
   refine reg_p NoF 1 [11] (.rd 0 (.rd 1 (.rd 2 (.rd 3 (.rd 4 (.rd 5 (.rd 6 (.rd 7 (.rd 8 (.rd 9 (.rd 10 (.ex 11 (.rd 12 (.rd 13 (.rd 14 (.rd 15 .nil)))))))))))))))) (by kernel_rfl) (by kernel_rfl) (fun _ _ _ _ _ h => h) fun w43 o44 => ?_
   have B45 := (Blk.k (Blk.k B5 o12) o44)
   refine Pl.MSP (b := true) (by kernel_rfl) (fun W oW => r_mv Z rfl) Z rfl rfl ?_; clear Z az; intro az Z
   refine Pl.MSP (b := true) (by kernel_rfl) (fun W oW => r_mv Z rfl) Z rfl rfl ?_; clear Z az; intro az Z
   refine Pl.MSP (b := true) (by kernel_rfl) (fun W oW => r_mv Z rfl) Z rfl rfl ?_; clear Z az; intro az Z
   refine Pl.MSP (b := true) (by kernel_rfl) (fun W oW => r_ltL (b := true) Z rfl rfl (decide_eq_true (by omega))) Z rfl rfl ?_; clear Z az; intro az Z
   refine Pl.MSP (b := true) (by kernel_rfl) (fun W oW => r_mv Z rfl) Z rfl rfl ?_; clear Z az; intro az Z
   refine Pl.MSPT (b := true) (by kernel_rfl) Z rfl rfl (fun W oW => r_mv Z rfl) rfl rfl ?_; clear Z az; intro az Z
   refine Pl.MSPT (b := true) (by kernel_rfl) Z rfl rfl (fun W oW => r_mv Z rfl) rfl rfl ?_; clear Z az; intro az Z
   refine Pl.MSPT (b := true) (by kernel_rfl) Z rfl rfl (fun W oW => r_mv Z rfl) rfl rfl ?_; clear Z az; intro az Z
   have hk46 : i < (B).length := by omega
   have O52 : Only NoF w w43 := (Only.trans' (Only.trans' o4 o12) o44)
   have h53 := (SliceOf.kp f1 O52 (fun _ _ h => h) (fun _ _ _ _ h => h))
   obtain ⟨m47, hm48, ok49, hA50⟩ := Row.el KN0 h53 hk46
   have E51 : ∀ W, Only NoF w43 W → CA W (eA A 5 (i)) [.int .i64 (m47.h), .int .i64 (m47.n), .int .i64 (m47.d), .slice m47.A (m47.l.length) m47.c, strV (m47.s)] := Row.ce KN0 h53 hm48 rfl
   refine Pl.MSPT (b := true) (by kernel_rfl) Z rfl rfl (fun W oW => r_ia (k := i) (size := 5) Tryz.underlying60 Tryz.sizeOf95 Z rfl rfl rfl hk46 hA50) rfl rfl ?_; clear Z az; intro az Z
   refine Pl.MSPT (b := true) (by kernel_rfl) Z rfl rfl (fun W oW => r_ldA Tryz.isAgg95 Tryz.sizeOf95 Z rfl (E51 _ (Only.trans' (Only.refl NoF w43) oW)) rfl) rfl rfl ?_; clear Z az; intro az Z
   refine Pl.MSPT (b := true) (by kernel_rfl) Z rfl rfl (fun W oW => r_ldA Tryz.isAgg95 Tryz.sizeOf95 Z rfl (Blk.ca (Blk.k B45 oW)) rfl) rfl rfl ?_; clear Z az; intro az Z
   have G54 := Gr.k hG O52
   refine Pl.MSGV (v := .int .i64 ((cmpN m47 x))) Z rfl rfl gd_t rfl rfl (fun hb => rfl) Tryz.call54 (fun hb => cmp_v G54 (hS.2 _ (List.mem_of_getElem? hm48)) hr (okN.k (hok _ (List.mem_of_getElem? hm48)) O52) (okN.k hx O52)) rfl (fun w' o' => ⟨fun _ => o', (Only.trans (Only.refl NoF w43) o' (fun _ h => h.elim))⟩) fun w55 o56 => ?_; clear Z az; intro az Z
   refine Pl.MSPT (b := true) (by kernel_rfl) Z rfl rfl (fun W oW => r_eqI Z rfl rfl) rfl rfl ?_; clear Z az; intro az Z
   refine Pl.MSP (b := true) (by kernel_rfl) (fun W oW => r_pick Z rfl rfl rfl) Z rfl rfl ?_; clear Z az; intro az Z
   refine Pl.MSP (b := true) (by kernel_rfl) (fun W oW => r_as Z rfl) Z rfl rfl ?_; clear Z az; intro az Z
   refine Pl.MSP (b := true) (by kernel_rfl) (fun W oW => r_as Z rfl) Z rfl rfl ?_; clear Z az; intro az Z
   refine wpPl_nil ?_
   refine k42 _ _ ?_
   refine wp_ret ?_
   show bodyPost _ _ _ .ret _ _
   refine ret_of (vs := [.int .i64 ((i : Int)), .bool (decide ((cmpN m47 x) = 0))]) Z Tryz.results55 ⟨rfl, rfl, trivial⟩ ?_
   have O57 : Only NoF w w55 := (Only.trans' O52 o56)
   refine ⟨_, _, rfl, ⟨fun h => in_yes hm48 (cmpN_eq (hS.2 _ (List.mem_of_getElem? hm48)) hr (of_decide_eq_true h)), fun h => ?_⟩, O57⟩
   refine decide_eq_true (Classical.byContradiction fun hn => in_no hS hlo hhi (fun y hy => by rw [hm48] at hy; injection hy with hy; rw [← hy]; exact hn) h)
  ·
   refine reg_p NoF 1 [11] (.rd 0 (.rd 1 (.rd 2 (.rd 3 (.rd 4 (.rd 5 (.rd 6 (.rd 7 (.rd 8 (.rd 9 (.rd 10 (.ex 11 (.rd 12 (.rd 13 (.rd 14 (.rd 15 .nil)))))))))))))))) (by kernel_rfl) (by kernel_rfl) (fun _ _ _ _ _ h => h) fun w58 o59 => ?_
   have B60 := (Blk.k (Blk.k B5 o12) o59)
   refine Pl.MSP (b := true) (by kernel_rfl) (fun W oW => r_mv Z rfl) Z rfl rfl ?_; clear Z az; intro az Z
   refine Pl.MSP (b := true) (by kernel_rfl) (fun W oW => r_mv Z rfl) Z rfl rfl ?_; clear Z az; intro az Z
   refine Pl.MSP (b := true) (by kernel_rfl) (fun W oW => r_mv Z rfl) Z rfl rfl ?_; clear Z az; intro az Z
   refine Pl.MSP (b := true) (by kernel_rfl) (fun W oW => r_ltL (b := false) Z rfl rfl (decide_eq_false (by omega))) Z rfl rfl ?_; clear Z az; intro az Z
   refine Pl.MSP (b := true) (by kernel_rfl) (fun W oW => r_mv Z rfl) Z rfl rfl ?_; clear Z az; intro az Z
   refine Pl.MSPF Z rfl rfl (by exact rfl) rfl rfl ?_; clear Z az; intro az Z
   refine Pl.MSPF Z rfl rfl (by exact rfl) rfl rfl ?_; clear Z az; intro az Z
   refine Pl.MSPF Z rfl rfl (by exact rfl) rfl rfl ?_; clear Z az; intro az Z
   refine Pl.MSPF Z rfl rfl (by exact rfl) rfl rfl ?_; clear Z az; intro az Z
   refine Pl.MSPF Z rfl rfl (by exact rfl) rfl rfl ?_; clear Z az; intro az Z
   refine Pl.MSPF Z rfl rfl (by exact rfl) rfl rfl ?_; clear Z az; intro az Z
   refine Pl.MXF Z rfl rfl (by exact rfl) rfl rfl ⟨fun _ => (Only.refl _ _), (Only.refl NoF w58)⟩ ?_; clear Z az; intro az Z
   refine Pl.MSPF Z rfl rfl (by exact rfl) rfl rfl ?_; clear Z az; intro az Z
   refine Pl.MSP (b := true) (by kernel_rfl) (fun W oW => r_pick Z rfl rfl rfl) Z rfl rfl ?_; clear Z az; intro az Z
   refine Pl.MSP (b := true) (by kernel_rfl) (fun W oW => r_as Z rfl) Z rfl rfl ?_; clear Z az; intro az Z
   refine Pl.MSP (b := true) (by kernel_rfl) (fun W oW => r_as Z rfl) Z rfl rfl ?_; clear Z az; intro az Z
   refine wpPl_nil ?_
   refine k42 _ _ ?_
   refine wp_ret ?_
   show bodyPost _ _ _ .ret _ _
   refine ret_of (vs := [.int .i64 ((i : Int)), .bool (false)]) Z Tryz.results55 ⟨rfl, rfl, trivial⟩ ?_
   have O61 : Only NoF w w58 := (Only.trans' (Only.trans' o4 o12) o59)
   exact ⟨_, false, rfl, ⟨(fun h => nomatch h), fun h => absurd h (in_no hS hlo hhi (fun y hy => absurd (List.getElem?_eq_some_iff.1 hy).1 (by omega)))⟩, O61⟩
theorem less_v_ {w : World} (hG : Gr w) {La B : List NM} {A A2 : Option Addr} {c c2 : Nat} (f1 : SliceOf AllB 5 KN0.R w (.slice A La.length c) La) (hok : OkNs AllB w La) (hr : ∀ m ∈ La, right m = true) (hl : La.length ≤ 1000000) (f2 : SliceOf AllB 5 KN0.R w (.slice A2 B.length c2) B) (hok2 : OkNs AllB w B) (hS : SrtI B) (hl2 : B.length ≤ 1000000) : Calls Tryz.prog 31 [.slice A La.length c, .slice A2 B.length c2].toArray w (RowTo (lessI La B) w) := by
 refine calls_start Tryz.func31 rfl rfl ?_
 intro az Z
 rw [Tryz.ntmps31] at Z
 refine wp_seq_k fun _ k1 => wp_region_lit ?_
 refine L (r_as Z rfl) Z rfl ?_; clear Z az; intro az Z
 refine k1 _ _ (wp_seq_k fun _ k2 => wp_region_lit ?_)
 refine L (r_as Z rfl) Z rfl ?_; clear Z az; intro az Z
 refine k2 _ _ (wp_seq_k fun _ k3 => ?_)
 refine wp_seq_k fun _ k4 => wp_region_lit ?_
 refine L (r_mv Z rfl) Z rfl ?_; clear Z az; intro az Z
 refine L (r_lenL Tryz.underlying60 Z rfl) Z rfl ?_; clear Z az; intro az Z
 refine L (r_mv Z rfl) Z rfl ?_; clear Z az; intro az Z
 refine k4 _ _ ?_
 refine wp_block ?_
 refine wp_loop_m (fun mz az W => ∃ k : Nat, ∃ O : List NM, ∃ Ao : Option Addr, ∃ co : Nat, mz = La.length - k ∧ Fr 31 [(1, .slice A2 (B.length) c2), (10, .slice A (La.length) c), (11, .int .i64 (((La.length : Nat) : Int))), (12, .int .i64 ((k : Int))), (5, .slice Ao (O.length) co)] az ∧ (k ≤ La.length) ∧ (O = lessI (La.take k) B) ∧ Only NoF w W ∧ W.ownsRow w.heap.size 95 5 (.slice Ao O.length co) O.length (List.flatMap KN0.cells O)) ?_ ?_
 ·
  exact ⟨_, 0, [], none, 0, rfl, Z.cut ⟨rfl, rfl, rfl, rfl, rfl, trivial⟩, Nat.zero_le _, rfl, (Only.refl NoF w), (World.ownsRow_nil _ _ _ _)⟩
 clear Z az
 rintro mz az w5 ⟨k, O, Ao, co, hm7, Z, hk, hO, o6, rO⟩
 have hOl : O.length ≤ La.length := by rw [hO]; exact Nat.le_trans le_len (by rw [List.length_take]; omega)
 refine wp_seq_k fun _ k8 => wp_region_lit ?_
 refine L (r_ltI Z rfl rfl) Z rfl ?_; clear Z az; intro az Z
 refine k8 _ _ (wp_seq_k fun _ k9 => ?_)
 refine br Z rfl (fun hc10 => ?_) (fun hc10 => ?_)
 ·
  have p11 := of_decide_eq_true hc10
  refine wp_skip ?_
  refine k9 _ _ (wp_seq_k fun _ k12 => ?_)
  refine wp_block ?_
  refine wp_seq_k fun _ k13 => wp_region_lit ?_
  have hk14 : k < (La).length := by omega
  have h20 := (SliceOf.kp f1 o6 (fun _ _ h => h) (fun _ _ _ _ h => h))
  obtain ⟨m15, hm16, ok17, hA18⟩ := Row.el KN0 h20 hk14
  have E19 : ∀ W, Only NoF w5 W → CA W (eA A 5 (k)) [.int .i64 (m15.h), .int .i64 (m15.n), .int .i64 (m15.d), .slice m15.A (m15.l.length) m15.c, strV (m15.s)] := Row.ce KN0 h20 hm16 rfl
  refine L (r_ia (k := k) (size := 5) Tryz.underlying60 Tryz.sizeOf95 Z rfl rfl rfl hk14 hA18) Z rfl ?_; clear Z az; intro az Z
  refine L (r_ldA Tryz.isAgg95 Tryz.sizeOf95 Z rfl (E19 _ (Only.refl NoF w5)) rfl) Z rfl ?_; clear Z az; intro az Z
  refine LAl (v := .agg #[.int .i64 (0), .int .i64 (0), .int .i64 (0), .slice none (0) 0, strV ([])]) Tryz.zeroValue95 Z rfl rfl ?_
  clear Z az; intro g21 w22 hg25 hl26 o23 B24 az Z
  refine LSt (cs' := [.int .i64 (m15.h), .int .i64 (m15.n), .int .i64 (m15.d), .slice m15.A (m15.l.length) m15.c, strV (m15.s)]) Tryz.sizeOf95 Z rfl rfl rfl rfl rfl ⟨rfl, rfl, rfl, rfl, rfl, trivial⟩ B24 rfl rfl fun w27 s28 B29 => ?_
  refine k13 _ _ (wp_seq_k fun _ k30 => wp_region_lit ?_)
  refine L (r_mv Z rfl) Z rfl ?_; clear Z az; intro az Z
  refine L (r_ldA Tryz.isAgg95 Tryz.sizeOf95 Z rfl (Blk.ca B29) rfl) Z rfl ?_; clear Z az; intro az Z
  have O38 : Only NoF w w27 := (o_sg (Only.trans' o6 o23) s28 (size_only o6) (oneF_ge hg25))
  have G37 := Gr.k hG O38
  have h39 := (SliceOf.kp f2 O38 (fun _ _ h => h) (fun _ _ _ _ h => h))
  have hbs36 := bsi_v G37 h39 (OkNs.k hok2 O38) hS (hr _ (List.mem_of_getElem? hm16)) ((OkNs.k hok O38) _ (List.mem_of_getElem? hm16)) hl2
  refine LC Z rfl rfl Tryz.call55 hbs36 rfl ?_
  rintro e w31 ⟨i32, b33, rfl, hb34, o35⟩; refine ⟨_, rfl, ?_⟩
  clear Z az; intro az Z
  refine L (r_mv Z rfl) Z rfl ?_; clear Z az; intro az Z
  refine L (r_ex Z rfl rfl) Z rfl ?_; clear Z az; intro az Z
  refine L (r_ex Z rfl rfl) Z rfl ?_; clear Z az; intro az Z
  refine L (r_as Z rfl) Z rfl ?_; clear Z az; intro az Z
  refine L (r_as Z rfl) Z rfl ?_; clear Z az; intro az Z
  refine k30 _ _ (wp_seq_k fun _ k40 => wp_region_lit ?_)
  refine L (r_mv Z rfl) Z rfl ?_; clear Z az; intro az Z
  refine L (r_not Z rfl) Z rfl ?_; clear Z az; intro az Z
  refine k40 _ _ ?_
  refine br Z rfl (fun hc41 => ?_) (fun hc41 => ?_)
  ·
   have q42 : b33 = false := (nt_t hc41)
   refine wp_region_lit ?_
   refine L (r_mv Z rfl) Z rfl ?_; clear Z az; intro az Z
   have B43 := (Blk.k B29 o35)
   refine L (r_ldA Tryz.isAgg95 Tryz.sizeOf95 Z rfl (Blk.ca B43) rfl) Z rfl ?_; clear Z az; intro az Z
   obtain ⟨A44, w45, hw, hA, r46, o47⟩ := Row.made (w := w31) KN0 (e := 95) ([m15] : List NM) (by simp only [List.length_cons, List.length_nil]; unfold maxLen; omega)
   refine L (r_bs (z := .agg #[.int .i64 (0), .int .i64 (0), .int .i64 (0), .slice none (0) 0, strV ([])]) (size := 5) (vs := [(0, .agg #[.int .i64 (m15.h), .int .i64 (m15.n), .int .i64 (m15.d), .slice m15.A (m15.l.length) m15.c, strV (m15.s)])]) (cs := List.flatMap KN0.cells [m15]) Tryz.underlying60 Tryz.sizeOf95 Tryz.zeroValue95 rfl (Fr.evalps Z rfl) (by kernel_rfl)) Z rfl ?_
   rw [← hw, ← hA]; clear Z az; intro az Z
   clear hw hA
   have ok48 : ∀ zq ∈ ([m15] : List NM), KN0.ok zq := by intro zq hx; simp only [List.mem_cons, List.not_mem_nil, or_false] at hx; rcases hx with rfl <;> first | exact trivial
   have r49 := (ow_k (ow_k (ow_only (ow_k rO o23) s28 (fun k hk => lt_F (oneF_ge hg25) (Nat.le_refl _) k (ownF_lt rO k hk))) o35) o47)
   have h50 := SliceOf.pl (Row.own KN0 r46 ok48)
   have hb58 : (List.length (O) + List.length ([m15])) * 64 ≤ 140737488355328 := by (simp only [List.length_append, List.length_cons, List.length_nil]; omega)
   have O59 : Only NoF w w45 := (Only.trans' (Only.trans' O38 o35) o47)
   obtain ⟨A51, c52, w53, hr54, r55, o56, al57⟩ := Row.app (P := Tryz.prog) (l := O) (l2 := [m15]) KN0 elemItem r49 h50 hb58 (by unfold maxLen; omega) (size_only O59)
   refine L (r_app hr54 Z rfl rfl) Z rfl ?_; clear Z az; intro az Z
   have ok60 : ∀ zq ∈ (O ++ [m15]), KN0.ok zq := (fun x hx => (List.mem_append.1 hx).elim ((fun _ _ => trivial) x) ((Row.oks KN0 h50) x))
   have h61 := Row.own KN0 r55 ok60
   refine L (r_as Z rfl) Z rfl ?_; clear Z az; intro az Z
   refine k12 _ _ ?_
   refine wp_region_lit ?_
   have i62 : I64 (((k : Int) + 1)) := by unfold I64; omega
   refine L (r_addI (r := ((k : Int) + 1)) Z rfl rfl rfl i62) Z rfl ?_; clear Z az; intro az Z
   refine L (r_mv Z rfl) Z rfl ?_; clear Z az; intro az Z
   have O63 : Only NoF w w53 := (o_sg O59 o56 (Nat.le_refl _) (ownF_ge rO))
   exact ⟨_, (by omega), k + 1, _, A51, c52, rfl, Z.cut ⟨rfl, rfl, rfl, rfl, rfl, trivial⟩, (by omega), (by rw [hO, le_yes hm16 hb34 hc41]), O63, r55⟩
  ·
   have q64 : b33 = true := (nt_f hc41)
   refine wp_skip ?_
   refine k12 _ _ ?_
   refine wp_region_lit ?_
   have i65 : I64 (((k : Int) + 1)) := by unfold I64; omega
   refine L (r_addI (r := ((k : Int) + 1)) Z rfl rfl rfl i65) Z rfl ?_; clear Z az; intro az Z
   refine L (r_mv Z rfl) Z rfl ?_; clear Z az; intro az Z
   have O66 : Only NoF w w31 := (Only.trans' O38 o35)
   have r67 := (ow_k (ow_only (ow_k rO o23) s28 (fun k hk => lt_F (oneF_ge hg25) (Nat.le_refl _) k (ownF_lt rO k hk))) o35)
   exact ⟨_, (by omega), k + 1, O, Ao, co, rfl, Z.cut ⟨rfl, rfl, rfl, rfl, rfl, trivial⟩, (by omega), (by rw [hO, le_no hm16 hb34 hc41]), O66, r67⟩
 ·
  have p68 := of_decide_eq_false hc10
  refine wp_exit ?_
  refine th_exit ?_
  refine th_exit ?_
  refine ib_hit ?_
  refine k3 _ _ (wp_seq_k fun _ k69 => wp_region_lit ?_)
  refine L (r_mv Z rfl) Z rfl ?_; clear Z az; intro az Z
  have h75 := SliceOf.pl (Row.own KN0 rO (fun _ _ => trivial))
  refine LC Z rfl rfl Tryz.call34 (notes_v_ h75 (by omega)) rfl ?_
  rintro e w70 ⟨A72, c73, rfl, r74, o71⟩; refine ⟨_, rfl, ?_⟩
  clear Z az; intro az Z
  refine L (r_as Z rfl) Z rfl ?_; clear Z az; intro az Z
  refine k69 _ _ ?_
  refine wp_ret ?_
  show bodyPost _ _ _ .ret _ _
  refine ret_of (vs := [.slice A72 (O.length) c73]) Z Tryz.results31 ⟨rfl, trivial⟩ ?_
  have O76 : Only NoF w w70 := (Only.trans' o6 o71)
  rw [List.take_of_length_le (by omega)] at hO; subst hO; exact ⟨_, _, rfl, ow_low r74 (size_only o6), O76⟩
end
section
open Go.RowKit
theorem Items1_v {w : World} (hG : Gr w) {l : List NM} {A : Option Addr} {c : Nat} (t : NtV w (.slice A l.length c) l) (hl : l.length ≤ 1000000) : Calls Tryz.prog 30 [.slice A l.length c, .slice none 0 0].toArray w (ItemsTo l w) := by
 have := items_v_ hG t (l2 := []) (A2 := none) (c2 := 0) (NtV.nil w) (by simpa using hl)
 rwa [List.append_nil] at this
theorem srt_of {L l : List NM} (h : L.map ns = joinN l) : SrtI L := ⟨by rw [h]; exact join_sorted l, joined_right h⟩
/-- two lists of notes that come back -/
def TalkTo (M N : List NM) (w : World) (e : Ending) (w' : World) : Prop := ∃ A c, ∃ L : List NM, ∃ A2 c2, ∃ L2 : List NM, e = .returned (.tuple #[.slice A L.length c, .slice A2 L2.length c2]) ∧ L.map ns = M ∧ L2.map ns = N ∧ NtS (geB w.heap.size) w' (.slice A L.length c) L ∧ NtS (geB w.heap.size) w' (.slice A2 L2.length c2) L2 ∧ Only NoF w w'
theorem Talk_v_ {w : World} (hG : Gr w) {l l2 : List NM} {A1 A2 : Option Addr} {c1 c2 : Nat} (t1 : NtV w (.slice A1 l.length c1) l) (t2 : NtV w (.slice A2 l2.length c2) l2) (hl1 : l.length ≤ 1000000) (hl2 : l2.length ≤ 1000000) : Calls Tryz.prog 7 [.slice A1 l.length c1, .slice A2 l2.length c2].toArray w (TalkTo (lessN (joinN l2) (joinN l)) (lessN (joinN l) (joinN l2)) w) := by
 refine calls_start Tryz.func7 rfl rfl ?_
 intro az Z
 rw [Tryz.ntmps7] at Z
 refine wp_seq_k fun _ k1 => wp_region_lit ?_
 refine L (r_as Z rfl) Z rfl ?_; clear Z az; intro az Z
 refine L (r_as Z rfl) Z rfl ?_; clear Z az; intro az Z
 refine k1 _ _ (wp_seq_k fun _ k2 => wp_region_lit ?_)
 refine L (r_mv Z rfl) Z rfl ?_; clear Z az; intro az Z
 have G12 := Gr.k hG (Only.refl NoF w)
 have hi11 := Items1_v G12 t1 hl1
 refine LC Z rfl rfl Tryz.call30 hi11 rfl ?_
 rintro e w3 ⟨A5, c6, L7, rfl, hL8, r9, hN10, o4⟩; refine ⟨_, rfl, ?_⟩
 clear Z az; intro az Z
 refine L (r_mv Z rfl) Z rfl ?_; clear Z az; intro az Z
 have G22 := Gr.k hG o4
 have hi21 := Items1_v G22 (NtV.k t2 o4) hl2
 refine LC Z rfl rfl Tryz.call30 hi21 rfl ?_
 rintro e w13 ⟨A15, c16, L17, rfl, hL18, r19, hN20, o14⟩; refine ⟨_, rfl, ?_⟩
 clear Z az; intro az Z
 refine L (r_as Z rfl) Z rfl ?_; clear Z az; intro az Z
 refine L (r_as Z rfl) Z rfl ?_; clear Z az; intro az Z
 refine k2 _ _ (wp_seq_k fun _ k23 => wp_region_lit ?_)
 refine L (r_mv Z rfl) Z rfl ?_; clear Z az; intro az Z
 refine L (r_mv Z rfl) Z rfl ?_; clear Z az; intro az Z
 have O31 : Only NoF w w13 := (Only.trans' o4 o14)
 have G30 := Gr.k hG O31
 have r32 := (ow_k r9 o14)
 have hl29 := less_v_ G30 (SliceOf.pl (Row.own KN0 r19 (fun _ _ => trivial))) (OkNs.pl hN20) (joined_right hL18) (Nat.le_trans (joinN_len hL18) hl2) (SliceOf.pl (Row.own KN0 r32 (fun _ _ => trivial))) (OkNs.pl (OkNs.k hN10 o14)) (srt_of hL8) (Nat.le_trans (joinN_len hL8) hl1)
 refine LC Z rfl rfl Tryz.call31 hl29 rfl ?_
 rintro e w24 ⟨A26, c27, rfl, r28, o25⟩; refine ⟨_, rfl, ?_⟩
 clear Z az; intro az Z
 refine L (r_mv Z rfl) Z rfl ?_; clear Z az; intro az Z
 refine L (r_mv Z rfl) Z rfl ?_; clear Z az; intro az Z
 have O40 : Only NoF w w24 := (Only.trans' O31 o25)
 have G39 := Gr.k hG O40
 have r41 := (ow_k r32 o25)
 have O42 : Only NoF w3 w24 := (Only.trans' o14 o25)
 have r43 := (ow_k r19 o25)
 have hl38 := less_v_ G39 (SliceOf.pl (Row.own KN0 r41 (fun _ _ => trivial))) (OkNs.pl (OkNs.k hN10 O42)) (joined_right hL8) (Nat.le_trans (joinN_len hL8) hl1) (SliceOf.pl (Row.own KN0 r43 (fun _ _ => trivial))) (OkNs.pl (OkNs.k hN20 o25)) (srt_of hL18) (Nat.le_trans (joinN_len hL18) hl2)
 refine LC Z rfl rfl Tryz.call31 hl38 rfl ?_
 rintro e w33 ⟨A35, c36, rfl, r37, o34⟩; refine ⟨_, rfl, ?_⟩
 clear Z az; intro az Z
 refine L (r_as Z rfl) Z rfl ?_; clear Z az; intro az Z
 refine L (r_as Z rfl) Z rfl ?_; clear Z az; intro az Z
 refine k23 _ _ ?_
 refine wp_ret ?_
 show bodyPost _ _ _ .ret _ _
 refine ret_of (vs := [.slice A26 ((lessI L17 L7).length) c27, .slice A35 ((lessI L7 L17).length) c36]) Z Tryz.results7 ⟨rfl, rfl, trivial⟩ ?_
 have O45 : Only NoF w13 w33 := (Only.trans' o25 o34)
 have hn44 : NtS (geB w.heap.size) w33 (.slice A26 (lessI L17 L7).length c27) (lessI L17 L7) := ⟨SliceOf.sup (SliceOf.kp (Row.own KN0 r28 (fun _ _ => trivial)) o34 (fun _ _ h => h) (fun _ _ _ _ h => h)) (fun k hk => Nat.le_trans (size_only O31) hk), OkNs.k (OkNs.sup (S := _) (fun m hm => hN20 m (List.mem_filter.1 hm).1) (fun k hk => Nat.le_trans (size_only o4) hk.1)) O45⟩
 have O47 : Only NoF w3 w33 := (Only.trans' O42 o34)
 have hn46 : NtS (geB w.heap.size) w33 (.slice A35 (lessI L7 L17).length c36) (lessI L7 L17) := ⟨SliceOf.sup (SliceOf.kp (Row.own KN0 r37 (fun _ _ => trivial)) (Only.refl NoF w33) (fun _ _ h => h) (fun _ _ _ _ h => h)) (fun k hk => Nat.le_trans (size_only O40) hk), OkNs.k (OkNs.sup (S := _) (fun m hm => hN10 m (List.mem_filter.1 hm).1) (fun k hk => Nat.le_trans (Nat.le_refl _) hk.1)) O47⟩
 have O48 : Only NoF w w33 := (Only.trans' O40 o34)
 exact ⟨_, _, _, _, _, _, rfl, le_map hL18 hL8, le_map hL8 hL18, hn44, hn46, O48⟩
end
end Go.Proofs.YtdcbjedkddgfkaaGreatDoor
