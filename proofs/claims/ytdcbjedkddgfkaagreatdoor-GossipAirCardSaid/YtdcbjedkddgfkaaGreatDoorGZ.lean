/-
  Gossip: heard, walked. Condition: the listed variables; the messages are the list's.
  Gossip: GossipAir, walked: it returns true. Condition: the listed variables.
-/
import Derived.Test.YtdcbjedkddgfkaaGreatDoorGpL
namespace Go.Proofs.YtdcbjedkddgfkaaGreatDoor
set_option linter.unusedVariables false
set_option linter.unusedSimpArgs false
set_option linter.unusedSectionVars false
section
open Go.RowKit
def HeardTo (l : List NM) (w : World) (e : Ending) (w' : World) : Prop := ∃ A c, ∃ O : List NM, e = .returned (.tuple #[.slice A O.length c, .bool true]) ∧ O.map ns = l.map ns ∧ NtV w' (.slice A O.length c) O ∧ Only NoF w w'
theorem msg_at {B : List Msg} {l : List NM} {k : Nat} {m : Msg} (hB : B = l.map msgN) (hm : B[k]? = some m) : ∃ x, l[k]? = some x ∧ m = msgN x := by
 subst hB
 rw [List.getElem?_map] at hm
 cases e : l[k]? with
 | none => rw [e] at hm; cases hm
 | some x => rw [e] at hm; exact ⟨x, rfl, (Option.some.inj hm).symm⟩
theorem hd_step {O l : List NM} {k : Nat} {x y : NM} (hO : O.map ns = (l.take k).map ns) (hx : l[k]? = some x) (hy : ns y = ns x) : (O ++ [y]).map ns = (l.take (k + 1)).map ns := by
 rw [take_succ_get hx, List.map_append, List.map_append, hO]
 simp [hy]
theorem dec39 {w : World} (hG : Gr w) {x : NM} (hx : right x = true) {t : Str} (ht : t = encN x) : Calls Tryz.prog 50 #[strV t] w (fun e w' => ∃ y : NM, e = .returned (.tuple #[.agg #[.int .i64 y.h, .int .i64 y.n, .int .i64 y.d, .slice y.A y.l.length y.c, strV y.s], .bool true]) ∧ ns y = ns x ∧ Only NoF w w' ∧ okN (geB w.heap.size) w' y) := by
 subst ht
 obtain ⟨h1, h2⟩ := read_msg hx
 refine (Decode_v hG (Nat.le_trans (enc_len hx) (by omega))).mono ?_
 rintro e w' ⟨v, rfl, o, h | h⟩
 · rw [h1] at h; cases h.1
 · obtain ⟨_, m, rfl, e1, e2, e3, e4, e5, ok, sg⟩ := h
   refine ⟨m, by rw [h1], ?_, o, okN.of ok sg⟩
   rw [← h2]
   unfold ns
   rw [e1, e2, e3, e4, e5]
set_option maxRecDepth 20000 in
set_option maxHeartbeats 4000000 in
theorem heard_v_ {w : World} (hG : Gr w) {l : List NM} (hr : ∀ x ∈ l, right x = true) (hll : l.length ≤ 1000) {B : List Msg} (hB : B = l.map msgN) {A : Option Addr} {c : Nat} (f1 : SliceOf AllB 3 KMsg.R w (.slice A B.length c) B) : Calls Tryz.prog 27 [.slice A B.length c, .int .i64 399].toArray w (HeardTo l w) := by
 have hBl : B.length = l.length := by rw [hB, List.length_map]
 refine calls_start Tryz.func27 rfl rfl ?_
 intro az Z
 rw [Tryz.ntmps27] at Z
 refine wp_seq_k fun _ k1 => wp_region_lit ?_
 refine L (r_as Z rfl) Z rfl ?_; clear Z az; intro az Z
 refine L (r_as Z rfl) Z rfl ?_; clear Z az; intro az Z
 refine k1 _ _ (wp_seq_k fun _ k2 => wp_region_lit ?_)
 obtain ⟨A3, w4, hw, hA, r5, o6⟩ := made0 (w := w) (e := 43) (size := 5)
 refine L (r_bs0 Tryz.underlying22 Tryz.sizeOf43) Z rfl ?_
 rw [← hw, ← hA]; clear Z az; intro az Z
 clear hw hA
 refine L (r_as Z rfl) Z rfl ?_; clear Z az; intro az Z
 refine k2 _ _ (wp_seq_k fun _ k7 => ?_)
 refine wp_seq_k fun _ k8 => wp_region_lit ?_
 refine L (r_as Z rfl) Z rfl ?_; clear Z az; intro az Z
 refine k8 _ _ ?_
 refine wp_block ?_
 refine wp_loop_m (fun mz az W => ∃ k : Nat, ∃ O : List NM, ∃ Ao : Option Addr, ∃ co : Nat, mz = B.length - k ∧ Fr 40 [(0, .slice A (B.length) c), (1, .int .i64 (399)), (7, .int .i64 ((k : Int))), (6, .slice Ao (O.length) co)] az ∧ (k ≤ B.length) ∧ (O.map ns = (l.take k).map ns) ∧ Only NoF w W ∧ W.ownsRow w.heap.size 43 5 (.slice Ao O.length co) O.length (List.flatMap KN0.cells O) ∧ OkNs (SKr (ownF (.slice Ao O.length co)) W) W O) ?_ ?_
 ·
  exact ⟨_, 0, [], A3, 0, rfl, Z.cut ⟨rfl, rfl, rfl, rfl, trivial⟩, Nat.zero_le _, rfl, o6, r5, OkNs.nil⟩
 clear Z az
 rintro mz az w9 ⟨k, O, Ao, co, hm11, Z, hk, hO, o10, rO, hA⟩
 have hOl : O.length ≤ k := by have h0 := congrArg List.length hO; rw [List.length_map, List.length_map, List.length_take] at h0; omega
 refine wp_seq_k fun _ k12 => ?_
 refine wp_seq_k fun _ k13 => wp_region_lit ?_
 refine L (r_mv Z rfl) Z rfl ?_; clear Z az; intro az Z
 refine L (r_mv Z rfl) Z rfl ?_; clear Z az; intro az Z
 refine L (r_lenL Tryz.underlying46 Z rfl) Z rfl ?_; clear Z az; intro az Z
 refine L (r_ltI Z rfl rfl) Z rfl ?_; clear Z az; intro az Z
 refine k13 _ _ ?_
 refine br Z rfl (fun hc14 => ?_) (fun hc14 => ?_)
 ·
  have p15 := of_decide_eq_true hc14
  refine wp_skip ?_
  refine k12 _ _ (wp_seq_k fun _ k16 => ?_)
  refine wp_block ?_
  refine wp_seq_k fun _ k17 => ?_
  refine wp_seq_k fun _ k18 => wp_region_lit ?_
  refine L (r_mv Z rfl) Z rfl ?_; clear Z az; intro az Z
  refine L (r_mv Z rfl) Z rfl ?_; clear Z az; intro az Z
  have hk19 : k < (B).length := by omega
  have h25 := (SliceOf.kp f1 o10 (fun _ _ h => h) (fun _ _ _ _ h => h))
  obtain ⟨m20, hm21, ok22, hA23⟩ := Row.el KMsg h25 hk19
  have E24 : ∀ W, Only NoF w9 W → CA W (eA A 3 (k)) [.int .i64 (m20.a), .int .i64 (m20.b), strV (m20.t)] := Row.ce KMsg h25 hm21 rfl
  obtain ⟨x26, hx27, hxm28⟩ := msg_at hB hm21
  have hrt29 := hr _ (List.mem_of_getElem? hx27)
  refine L (r_ia (k := k) (size := 3) Tryz.underlying46 Tryz.sizeOf90 Z rfl rfl rfl hk19 hA23) Z rfl ?_; clear Z az; intro az Z
  refine L (r_fa (m' := 1) Tryz.underlying90 rfl Tryz.sizeOf3 rfl Z rfl rfl) Z rfl ?_; clear Z az; intro az Z
  refine L (r_ld Tryz.isAgg3 Z rfl ((E24 _ (Only.refl NoF w9)) 1 _ rfl)) Z rfl ?_; clear Z az; intro az Z
  refine L (r_mv Z rfl) Z rfl ?_; clear Z az; intro az Z
  refine L ((r_cast (b := false) (r_neI Z rfl rfl) (congrArg not (decide_eq_true (by rw [hxm28]; rfl))))) Z rfl ?_; clear Z az; intro az Z
  refine k18 _ _ ?_
  refine br_false Z rfl ?_
  refine wp_skip ?_
  refine k17 _ _ (wp_seq_k fun _ k30 => wp_region_lit ?_)
  refine L (r_mv Z rfl) Z rfl ?_; clear Z az; intro az Z
  refine L (r_mv Z rfl) Z rfl ?_; clear Z az; intro az Z
  refine L (r_ia (k := k) (size := 3) Tryz.underlying46 Tryz.sizeOf90 Z rfl rfl rfl hk19 hA23) Z rfl ?_; clear Z az; intro az Z
  refine L (r_fa (m' := 2) Tryz.underlying90 rfl Tryz.sizeOf9 rfl Z rfl rfl) Z rfl ?_; clear Z az; intro az Z
  refine L (r_ld Tryz.isAgg9 Z rfl ((E24 _ (Only.refl NoF w9)) 2 _ rfl)) Z rfl ?_; clear Z az; intro az Z
  have G35 := Gr.k hG o10
  have hC36 := dec39 G35 hrt29 (t := m20.t) (by rw [hxm28]; rfl)
  refine LC Z rfl rfl Tryz.call50 (hC36) rfl ?_
  rintro e w37 ⟨y31, rfl, hy32, o33, ok34⟩; refine ⟨_, rfl, ?_⟩
  clear Z az; intro az Z
  refine L (r_mv Z rfl) Z rfl ?_; clear Z az; intro az Z
  refine L (r_ex Z rfl rfl) Z rfl ?_; clear Z az; intro az Z
  refine L (r_ex Z rfl rfl) Z rfl ?_; clear Z az; intro az Z
  refine LAl (v := .agg #[.int .i64 (0), .int .i64 (0), .int .i64 (0), .slice none (0) 0, strV ([])]) Tryz.zeroValue43 Z rfl rfl ?_
  clear Z az; intro g38 w39 hg42 hl43 o40 B41 az Z
  refine LSt (cs' := [.int .i64 (y31.h), .int .i64 (y31.n), .int .i64 (y31.d), .slice y31.A (y31.l.length) y31.c, strV (y31.s)]) Tryz.sizeOf43 Z rfl rfl rfl rfl rfl ⟨rfl, rfl, rfl, rfl, rfl, trivial⟩ B41 rfl rfl fun w44 s45 B46 => ?_
  refine L (r_as Z rfl) Z rfl ?_; clear Z az; intro az Z
  refine k30 _ _ (wp_seq_k fun _ k47 => ?_)
  refine wp_seq_k fun _ k48 => wp_region_lit ?_
  refine L (r_mv Z rfl) Z rfl ?_; clear Z az; intro az Z
  refine L (r_not Z rfl) Z rfl ?_; clear Z az; intro az Z
  refine k48 _ _ ?_
  refine br_false Z rfl ?_
  refine wp_skip ?_
  refine k47 _ _ ?_
  refine wp_region_lit ?_
  refine L (r_mv Z rfl) Z rfl ?_; clear Z az; intro az Z
  refine L (r_ldA Tryz.isAgg43 Tryz.sizeOf43 Z rfl (Blk.ca B46) rfl) Z rfl ?_; clear Z az; intro az Z
  obtain ⟨A49, w50, hw, hA, r51, o52⟩ := Row.made (w := w44) KN0 (e := 43) ([y31] : List NM) (by simp only [List.length_cons, List.length_nil]; unfold maxLen; omega)
  refine L (r_bs (z := .agg #[.int .i64 (0), .int .i64 (0), .int .i64 (0), .slice none (0) 0, strV ([])]) (size := 5) (vs := [(0, .agg #[.int .i64 (y31.h), .int .i64 (y31.n), .int .i64 (y31.d), .slice y31.A (y31.l.length) y31.c, strV (y31.s)])]) (cs := List.flatMap KN0.cells [y31]) Tryz.underlying22 Tryz.sizeOf43 Tryz.zeroValue43 rfl (Fr.evalps Z rfl) (by kernel_rfl)) Z rfl ?_
  rw [← hw, ← hA]; clear Z az; intro az Z
  clear hw hA
  have ok53 : ∀ zq ∈ ([y31] : List NM), KN0.ok zq := by intro zq hx; simp only [List.mem_cons, List.not_mem_nil, or_false] at hx; rcases hx with rfl <;> first | exact trivial
  have O56 : Only NoF w37 w50 := (Only.trans' (o_sg o40 s45 (Nat.le_refl _) (oneF_ge hg42)) o52)
  have h57 := (SliceOf.kp ok34.2.2.2.1 O56 (fun _ _ h => h) (fun _ _ _ _ h => h))
  have hn54 : okN (SKr (ownF (.slice Ao (O.length) co)) w50) w50 y31 := okN.new ⟨ok34.1, ok34.2.1, ok34.2.2.1, h57, ok34.2.2.2.2⟩ (ownF_lt rO)
  have O58 : Only NoF w9 w50 := (Only.trans' (o_sg (Only.trans' o33 o40) s45 (size_only o33) (oneF_ge hg42)) o52)
  have ha55 := OkNs.app (OkNs.mv hA O58 (fun _ h => h.elim)) hn54
  have r59 := (ow_k (ow_only (ow_k (ow_k rO o33) o40) s45 (fun k hk => lt_F (oneF_ge hg42) (size_only o33) k (ownF_lt rO k hk))) o52)
  have h60 := SliceOf.pl (Row.own KN0 r51 ok53)
  have hb68 : (List.length (O) + List.length ([y31])) * 64 ≤ 140737488355328 := by (simp only [List.length_cons, List.length_nil]; omega)
  have O69 : Only NoF w w37 := (Only.trans' o10 o33)
  have O70 : Only NoF w w50 := (Only.trans' (o_sg (Only.trans' (Only.trans' o10 o33) o40) s45 (size_only O69) (oneF_ge hg42)) o52)
  obtain ⟨A61, c62, w63, hr64, r65, o66, al67⟩ := Row.app (P := Tryz.prog) (l := O) (l2 := [y31]) KN0 elemNote r59 h60 hb68 (by unfold maxLen; omega) (size_only O70)
  refine L (r_app hr64 Z rfl rfl) Z rfl ?_; clear Z az; intro az Z
  have ok71 : ∀ zq ∈ (O ++ [y31]), KN0.ok zq := (fun x hx => (List.mem_append.1 hx).elim ((fun _ _ => trivial) x) ((Row.oks KN0 h60) x))
  have h72 := Row.own KN0 r65 ok71
  have ha73 := OkNs.mvA (F' := ownF (.slice A61 (((O ++ [y31])).length) c62)) ha55 o66 (fun _ h => h) (fun k h => (app_Fg al67 h).elim .inl (fun h => .inr (by omega)))
  refine L (r_as Z rfl) Z rfl ?_; clear Z az; intro az Z
  refine k16 _ _ ?_
  refine wp_region_lit ?_
  refine L (r_mv Z rfl) Z rfl ?_; clear Z az; intro az Z
  have i74 : I64 (((k : Int) + 1)) := by unfold I64; omega
  refine L (r_addI (r := ((k : Int) + 1)) Z rfl rfl rfl i74) Z rfl ?_; clear Z az; intro az Z
  refine L (r_as Z rfl) Z rfl ?_; clear Z az; intro az Z
  have O75 : Only NoF w w63 := (o_sg O70 o66 (Nat.le_refl _) (ownF_ge rO))
  exact ⟨_, (by omega), k + 1, (O ++ [y31]), A61, c62, rfl, Z.cut ⟨rfl, rfl, rfl, rfl, trivial⟩, (by omega), (hd_step hO hx27 hy32), O75, r65, ha73⟩
 ·
  have p76 := of_decide_eq_false hc14
  refine wp_exit ?_
  refine th_exit ?_
  refine th_exit ?_
  refine ib_hit ?_
  refine k7 _ _ (wp_seq_k fun _ k77 => wp_region_lit ?_)
  refine L (r_mv Z rfl) Z rfl ?_; clear Z az; intro az Z
  refine L (r_as Z rfl) Z rfl ?_; clear Z az; intro az Z
  refine L (r_as Z rfl) Z rfl ?_; clear Z az; intro az Z
  refine k77 _ _ ?_
  refine wp_ret ?_
  show bodyPost _ _ _ .ret _ _
  refine ret_of (vs := [.slice Ao (O.length) co, .bool (true)]) Z Tryz.results27 ⟨rfl, rfl, trivial⟩ ?_
  exact ⟨_, _, O, rfl, by rw [hO, List.take_of_length_le (by rw [hB, List.length_map] at *; omega)], ⟨SliceOf.pl (Row.own KN0 rO (fun _ _ => trivial)), OkNs.pl hA⟩, o10⟩
end
section
open Go.RowKit
theorem to_j {P : Program} {f : FuncId} {args : Array Value} {w : World} {X Y : List NM} (Q : List NM → Ending → World → Prop) (e : X = Y) (h : Calls P f args w (Q X)) : Calls P f args w (Q Y) := by
 subst e; exact h
theorem to_r {P : Program} {f : FuncId} {args : Array Value} {w : World} {X r : Air × List Msg × List Int} (e : r = X) (h : Calls P f args w (RunV w X)) : Calls P f args w (RunV w r) := by
 subst e; exact h
theorem build_Ev1 (k : Int) (w : World) : (Instr.build 45 #[(0, .int .i64 k)]).run Tryz.prog w = .ok (.agg #[.int .i64 k, .int .i64 0, .int .i64 0, strV []]) w := by kernel_rfl
theorem build_Ev4 (k a b : Int) (t : Str) (w : World) : (Instr.build 45 #[(0, .int .i64 k), (1, .int .i64 a), (2, .int .i64 b), (3, strV t)]).run Tryz.prog w = .ok (.agg #[.int .i64 k, .int .i64 a, .int .i64 b, strV t]) w := by kernel_rfl
theorem build_Air0 (w : World) : (Instr.build 49 #[]).run Tryz.prog w = .ok (.agg #[.slice none 0 0, .slice none 0 0]) w := by kernel_rfl
section
variable {m : NM} {a La : List NM} {S D : List Ev} {ms : List Msg}
theorem air_ok (h1 : right m = true) (h2 : ¬ m.h = 399) : airOk m = true := by
 unfold airOk
 rw [h1, decide_eq_true h2]; rfl
theorem air_right (h : airOk m = true) : right m = true := by
 unfold airOk at h
 rw [Bool.and_eq_true] at h; exact h.1
theorem enc_ifl (m : NM) : (if right m = true then encN m else []).length ≤ maxLen := by
 split
 · rename_i h
   have := enc_len h
   unfold maxLen; omega
 · exact Nat.zero_le _
theorem evS_step (h : airOk m = true) (hS : S = a.map evS) : S ++ [(⟨0, m.h, 399, (if right m = true then encN m else [])⟩ : Ev)] = (a ++ [m]).map evS := by
 rw [if_pos (air_right h), hS, List.map_append]; rfl
theorem evD_step (hD : D = a.map evD) : D ++ [(⟨1, 0, 0, []⟩ : Ev)] = (a ++ [m]).map evD := by
 rw [hD, List.map_append]; rfl
theorem air_add (h : ∀ x ∈ a, x ∈ La ∧ airOk x = true) (hm : m ∈ La) (ho : airOk m = true) : ∀ x ∈ a ++ [m], x ∈ La ∧ airOk x = true := fun x hx => by
 rcases List.mem_append.1 hx with h1 | h1
 · exact h x h1
 · rw [List.mem_singleton.1 h1]; exact ⟨hm, ho⟩
theorem okS (h : ∀ x ∈ a, airOk x = true) : ∀ z ∈ a.map evS, KEv.ok z := fun z hz => by
 obtain ⟨x, hx, rfl⟩ := List.mem_map.1 hz
 have h1 := air_right (h x hx)
 have h2 := right_bnd h1
 have h3 := enc_len h1
 show I64 0 ∧ I64 x.h ∧ I64 399 ∧ (encN x).length ≤ maxLen
 unfold I64 maxLen
 omega
theorem okD : ∀ z ∈ a.map evD, KEv.ok z := fun z hz => by
 obtain ⟨x, hx, rfl⟩ := List.mem_map.1 hz
 show I64 1 ∧ I64 0 ∧ I64 0 ∧ ([] : Str).length ≤ maxLen
 unfold I64 maxLen
 simp
theorem of_msgs : ∀ {ms : List Msg}, (∀ m ∈ ms, ∃ x ∈ a, m = msgN x) → ∃ l : List NM, ms = l.map msgN ∧ ∀ x ∈ l, x ∈ a
 | [], _ => ⟨[], rfl, fun _ h => by cases h⟩
 | m :: ms, h => by
  obtain ⟨x, hx, e⟩ := h m List.mem_cons_self
  obtain ⟨l, e2, h2⟩ := of_msgs fun y hy => h y (List.mem_cons_of_mem _ hy)
  exact ⟨x :: l, by rw [e, e2]; rfl, fun y hy => (List.mem_cons.1 hy).elim (fun h => by rw [h]; exact hx) (h2 y)⟩
theorem do_len (A : Air) (e : Ev) : (Lnk.do_ A e).2.1.length ≤ 1 := by
 unfold Lnk.do_
 split
 · exact Nat.zero_le _
 · split
   · split <;> simp
   · split
     · exact Nat.zero_le _
     · split
       · exact Nat.zero_le _
       · split
         · exact Nat.zero_le _
         · split <;> exact Nat.zero_le _
theorem runs_len : ∀ (l : List Ev) (A : Air), (Lnk.runs A l).2.1.length ≤ l.length
 | [], _ => Nat.zero_le _
 | e :: l, A => by
  have h1 := runs_len l (Lnk.next A e)
  have h2 := do_len A e
  show ((Lnk.do_ A e).2.1 ++ (Lnk.runs (Lnk.next A e) l).2.1).length ≤ _
  rw [List.length_append, List.length_cons]; omega
theorem came_len (A : Air) (l : List Ev) : (Lnk.run A l).2.1.length ≤ l.length := by
 unfold Lnk.run
 split
 · exact Nat.zero_le _
 · exact runs_len l A
end
set_option maxRecDepth 20000 in
set_option maxHeartbeats 4000000 in
theorem air39_ {w : World} (hG : Gr w) {La : List NM} {A1 : Option Addr} {c1 : Nat} (t1 : NtV w (.slice A1 La.length c1) La) {E : List Ev} {A2 : Option Addr} {c2 : Nat} (f2 : SliceOf AllB 4 KEv.R w (.slice A2 E.length c2) E) : Calls Tryz.prog 4 [.slice A1 (La.length) c1, .slice A2 (E.length) c2].toArray w (Fix (.bool true) w) := by
 refine calls_start Tryz.func4 rfl rfl ?_
 intro az Z
 rw [Tryz.ntmps4] at Z
 refine wp_seq_k fun _ k1 => wp_region_lit ?_
 refine L (r_as Z rfl) Z rfl ?_; clear Z az; intro az Z
 refine k1 _ _ (wp_seq_k fun _ k2 => wp_region_lit ?_)
 have G3 := Gr.k hG (Only.refl NoF w)
 refine LCV (v := .bool (true)) Z rfl rfl Tryz.call5 (small39_v G3) rfl fun w4 o5 => ?_; clear Z az; intro az Z
 refine L (r_as Z rfl) Z rfl ?_; clear Z az; intro az Z
 refine k2 _ _ (wp_seq_k fun _ k6 => ?_)
 refine wp_seq_k fun _ k7 => wp_region_lit ?_
 refine L (r_mv Z rfl) Z rfl ?_; clear Z az; intro az Z
 refine LCV (v := .bool (few39 La 15)) Z rfl rfl Tryz.call6 (few39_v_ (NtV.k t1 o5) 15) rfl fun w8 o9 => ?_; clear Z az; intro az Z
 refine L (r_not Z rfl) Z rfl ?_; clear Z az; intro az Z
 refine L (r_mv Z rfl) Z rfl ?_; clear Z az; intro az Z
 refine LG Z rfl rfl gd_f (fun hb => r_mv Z rfl) rfl ?_; clear Z az; intro az Z
 have O10 : Only NoF w w8 := (Only.trans' o5 o9)
 have h11 := (SliceOf.kp f2 O10 (fun _ _ h => h) (fun _ _ _ _ h => h))
 refine LGE Z rfl rfl gd_f rfl (fun hb => (evs_c (evg hb rfl) (evs_c rfl rfl))) Tryz.call24 (fun hb => kFewE_c h11 30 (by omega)) rfl fun b14 w12 hs15 o13 => ?_; clear Z az; intro az Z
 refine LG Z rfl rfl gd_f (fun hb => r_not Z (evg hb rfl)) rfl ?_; clear Z az; intro az Z
 refine L (r_or Z rfl rfl rfl) Z rfl ?_; clear Z az; intro az Z
 refine k7 _ _ ?_
 refine br Z rfl (fun hc16 => ?_) (fun hc16 => ?_)
 ·
  have d17 := hc16
  refine wp_seq_k fun _ k18 => wp_region_lit ?_
  refine L (r_mv Z rfl) Z rfl ?_; clear Z az; intro az Z
  refine L (r_as Z rfl) Z rfl ?_; clear Z az; intro az Z
  refine k18 _ _ ?_
  refine wp_ret ?_
  show bodyPost _ _ _ .ret _ _
  refine ret_of (vs := [.bool (true)]) Z Tryz.results4 ⟨rfl, trivial⟩ ?_
  have O19 : Only NoF w w12 := (Only.trans' O10 o13)
  exact ⟨rfl, O19⟩
 ·
  have q20 : few39 La 15 = true := (nt_f (or_f hc16).1)
  have q21 : b14 = true := (nt_f (or_f hc16).2)
  have S22 := hs15 (by rw [q20]; rfl) q21
  have hlLa := few_le q20
  have hEl := S22.1
  refine wp_skip ?_
  refine k6 _ _ (wp_seq_k fun _ k23 => wp_region_lit ?_)
  refine L (r_as Z rfl) Z rfl ?_; clear Z az; intro az Z
  refine k23 _ _ (wp_seq_k fun _ k24 => wp_region_lit ?_)
  obtain ⟨A25, w26, hw, hA, r27, o28⟩ := made0 (w := w12) (e := 43) (size := 5)
  refine L (r_bs0 Tryz.underlying22 Tryz.sizeOf43) Z rfl ?_
  rw [← hw, ← hA]; clear Z az; intro az Z
  clear hw hA
  refine L (r_as Z rfl) Z rfl ?_; clear Z az; intro az Z
  refine k24 _ _ (wp_seq_k fun _ k29 => wp_region_lit ?_)
  obtain ⟨A30, w31, hw, hA, r32, o33⟩ := made0 (w := w26) (e := 45) (size := 4)
  refine L (r_bs0 Tryz.underlying38 Tryz.sizeOf45) Z rfl ?_
  rw [← hw, ← hA]; clear Z az; intro az Z
  clear hw hA
  refine L (r_as Z rfl) Z rfl ?_; clear Z az; intro az Z
  refine k29 _ _ (wp_seq_k fun _ k34 => wp_region_lit ?_)
  obtain ⟨A35, w36, hw, hA, r37, o38⟩ := made0 (w := w31) (e := 45) (size := 4)
  refine L (r_bs0 Tryz.underlying38 Tryz.sizeOf45) Z rfl ?_
  rw [← hw, ← hA]; clear Z az; intro az Z
  clear hw hA
  refine L (r_as Z rfl) Z rfl ?_; clear Z az; intro az Z
  refine k34 _ _ (wp_seq_k fun _ k39 => ?_)
  refine wp_seq_k fun _ k40 => wp_region_lit ?_
  refine L (r_as Z rfl) Z rfl ?_; clear Z az; intro az Z
  refine k40 _ _ ?_
  refine wp_block ?_
  refine wp_loop_m (fun mz az W => ∃ i : Nat, ∃ a : List NM, ∃ S : List Ev, ∃ D : List Ev, ∃ Aa : Option Addr, ∃ ca : Nat, ∃ As : Option Addr, ∃ cs : Nat, ∃ Ad : Option Addr, ∃ cd : Nat, mz = La.length - i ∧ Fr 177 [(0, .slice A1 (La.length) c1), (1, .slice A2 (E.length) c2), (5, .bool (true)), (6, .int .i64 (399)), (10, .int .i64 ((i : Int))), (7, .slice Aa (a.length) ca), (8, .slice As (S.length) cs), (9, .slice Ad (D.length) cd)] az ∧ (i ≤ La.length) ∧ (∀ x ∈ a, x ∈ La ∧ airOk x = true) ∧ (a.length ≤ i) ∧ (S = a.map evS) ∧ (D = a.map evD) ∧ (∀ k, ownF (.slice As S.length cs) k → ¬ ownF (.slice Ad D.length cd) k) ∧ Only NoF w12 W ∧ W.ownsRow w12.heap.size 43 5 (.slice Aa a.length ca) a.length (List.flatMap KN0.cells a) ∧ W.ownsRow w12.heap.size 45 4 (.slice As S.length cs) S.length (List.flatMap KEv.cells S) ∧ W.ownsRow w12.heap.size 45 4 (.slice Ad D.length cd) D.length (List.flatMap KEv.cells D)) ?_ ?_
  ·
   have sep41 : ∀ k, ownF (.slice A30 (0) 0) k → ¬ ownF (.slice A35 (0) 0) k := fun k h h2 => absurd (Nat.lt_of_lt_of_le (ownF_lt r32 k h) (Nat.le_refl _)) (Nat.not_lt.2 (ownF_ge r37 k h2))
   have O42 : Only NoF w12 w36 := (Only.trans' (Only.trans' o28 o33) o38)
   have r43 := (ow_k (ow_k r27 o33) o38)
   have r44 := (ow_k r32 o38)
   have O45 : Only NoF w12 w31 := (Only.trans' o28 o33)
   exact ⟨_, 0, [], [], [], A25, 0, A30, 0, A35, 0, rfl, Z.cut ⟨rfl, rfl, rfl, rfl, rfl, rfl, rfl, rfl, trivial⟩, Nat.zero_le _, (fun x hx => by cases hx), Nat.le_refl _, rfl, rfl, sep41, O42, (ow_low r43 (Nat.le_refl _)), (ow_low r44 (size_only o28)), (ow_low r37 (size_only O45))⟩
  clear Z az
  rintro mz az w46 ⟨i, a, S, D, Aa, ca, As, cs, Ad, cd, hm48, Z, hi, ha, hal, hS, hD, hsep, o47, rA, rS, rD⟩
  have hokA : OkNs AllB w a := fun x hx => t1.2 x (ha x hx).1
  have hokS : ∀ z ∈ S, KEv.ok z := by rw [hS]; exact okS fun x hx => (ha x hx).2
  have hokD : ∀ z ∈ D, KEv.ok z := by rw [hD]; exact okD
  have hSl : S.length = a.length := by rw [hS, List.length_map]
  have hDl : D.length = a.length := by rw [hD, List.length_map]
  refine wp_seq_k fun _ k49 => ?_
  refine wp_seq_k fun _ k50 => wp_region_lit ?_
  refine L (r_mv Z rfl) Z rfl ?_; clear Z az; intro az Z
  refine L (r_mv Z rfl) Z rfl ?_; clear Z az; intro az Z
  refine L (r_lenL Tryz.underlying22 Z rfl) Z rfl ?_; clear Z az; intro az Z
  refine L (r_ltI Z rfl rfl) Z rfl ?_; clear Z az; intro az Z
  refine k50 _ _ ?_
  refine br Z rfl (fun hc51 => ?_) (fun hc51 => ?_)
  ·
   have p52 := of_decide_eq_true hc51
   refine wp_skip ?_
   refine k49 _ _ (wp_seq_k fun _ k53 => ?_)
   refine wp_block ?_
   refine wp_seq_k fun _ k54 => wp_region_lit ?_
   refine L (r_mv Z rfl) Z rfl ?_; clear Z az; intro az Z
   refine L (r_mv Z rfl) Z rfl ?_; clear Z az; intro az Z
   have hk55 : i < (La).length := by omega
   have O61 : Only NoF w w46 := (Only.trans' (Only.trans' O10 o13) o47)
   have h62 := (SliceOf.kp t1.1 O61 (fun _ _ h => h) (fun _ _ _ _ h => h))
   obtain ⟨m56, hm57, ok58, hA59⟩ := Row.el KN0 h62 hk55
   have E60 : ∀ W, Only NoF w46 W → CA W (eA A1 5 (i)) [.int .i64 (m56.h), .int .i64 (m56.n), .int .i64 (m56.d), .slice m56.A (m56.l.length) m56.c, strV (m56.s)] := Row.ce KN0 h62 hm57 rfl
   refine L (r_ia (k := i) (size := 5) Tryz.underlying22 Tryz.sizeOf43 Z rfl rfl rfl hk55 hA59) Z rfl ?_; clear Z az; intro az Z
   refine L (r_ldA Tryz.isAgg43 Tryz.sizeOf43 Z rfl (E60 _ (Only.refl NoF w46)) rfl) Z rfl ?_; clear Z az; intro az Z
   have G63 := Gr.k hG O61
   have h64 := (SliceOf.kp (t1.2 _ (List.mem_of_getElem? hm57)).2.2.2.1 O61 (fun _ _ h => h) (fun _ _ _ _ h => h))
   refine LCV (v := .tuple #[strV ((if right m56 = true then encN m56 else [])), .bool (right m56)]) Z rfl rfl Tryz.call25 (Encode_v G63 (m := m56) (okN.note (okN.k (t1.2 _ (List.mem_of_getElem? hm57)) O61))) rfl fun w65 o66 => ?_; clear Z az; intro az Z
   refine L (r_mv Z rfl) Z rfl ?_; clear Z az; intro az Z
   refine L (r_ex Z rfl rfl) Z rfl ?_; clear Z az; intro az Z
   refine L (r_ex Z rfl rfl) Z rfl ?_; clear Z az; intro az Z
   refine L (r_as Z rfl) Z rfl ?_; clear Z az; intro az Z
   refine L (r_as Z rfl) Z rfl ?_; clear Z az; intro az Z
   refine k54 _ _ (wp_seq_k fun _ k67 => wp_region_lit ?_)
   refine L (r_mv Z rfl) Z rfl ?_; clear Z az; intro az Z
   refine L (r_mv Z rfl) Z rfl ?_; clear Z az; intro az Z
   refine LG Z rfl rfl gd_t (fun hb => r_mv Z rfl) rfl ?_; clear Z az; intro az Z
   refine LG Z rfl rfl gd_t (fun hb => r_mv Z rfl) rfl ?_; clear Z az; intro az Z
   refine LG Z rfl rfl gd_t (fun hb => r_ia (k := i) (size := 5) Tryz.underlying22 Tryz.sizeOf43 Z (evg hb rfl) (evg hb rfl) rfl hk55 hA59) rfl ?_; clear Z az; intro az Z
   refine LG Z rfl rfl gd_t (fun hb => r_fa (m' := 0) Tryz.underlying43 rfl Tryz.sizeOf3 rfl Z (evg hb rfl) rfl) rfl ?_; clear Z az; intro az Z
   refine LG Z rfl rfl gd_t (fun hb => r_ld Tryz.isAgg3 Z (evg hb rfl) ((E60 _ o66) 0 _ rfl)) rfl ?_; clear Z az; intro az Z
   refine LG Z rfl rfl gd_t (fun hb => r_mv Z rfl) rfl ?_; clear Z az; intro az Z
   refine LG Z rfl rfl gd_t (fun hb => r_neI Z (evg hb rfl) (evg hb rfl)) rfl ?_; clear Z az; intro az Z
   refine L (r_and Z rfl rfl rfl) Z rfl ?_; clear Z az; intro az Z
   refine k67 _ _ ?_
   refine br Z rfl (fun hc68 => ?_) (fun hc68 => ?_)
   ·
    have q69 : right m56 = true := (and_t hc68).1
    have p70 := of_decide_eq_false (nt_t (and_t hc68).2)
    have hair := air_ok q69 p70
    have hairb := right_bnd (air_right hair)
    refine wp_seq_k fun _ k71 => wp_region_lit ?_
    refine L (r_mv Z rfl) Z rfl ?_; clear Z az; intro az Z
    refine L (r_mv Z rfl) Z rfl ?_; clear Z az; intro az Z
    refine L (r_mv Z rfl) Z rfl ?_; clear Z az; intro az Z
    refine L (r_ia (k := i) (size := 5) Tryz.underlying22 Tryz.sizeOf43 Z rfl rfl rfl hk55 hA59) Z rfl ?_; clear Z az; intro az Z
    refine L (r_ldA Tryz.isAgg43 Tryz.sizeOf43 Z rfl (E60 _ o66) rfl) Z rfl ?_; clear Z az; intro az Z
    obtain ⟨A72, w73, hw, hA, r74, o75⟩ := Row.made (w := w65) KN0 (e := 43) ([m56] : List NM) (by simp only [List.length_cons, List.length_nil]; unfold maxLen; omega)
    refine L (r_bs (z := .agg #[.int .i64 (0), .int .i64 (0), .int .i64 (0), .slice none (0) 0, strV ([])]) (size := 5) (vs := [(0, .agg #[.int .i64 (m56.h), .int .i64 (m56.n), .int .i64 (m56.d), .slice m56.A (m56.l.length) m56.c, strV (m56.s)])]) (cs := List.flatMap KN0.cells [m56]) Tryz.underlying22 Tryz.sizeOf43 Tryz.zeroValue43 rfl (Fr.evalps Z rfl) (by kernel_rfl)) Z rfl ?_
    rw [← hw, ← hA]; clear Z az; intro az Z
    clear hw hA
    have ok76 : ∀ zq ∈ ([m56] : List NM), KN0.ok zq := by intro zq hx; simp only [List.mem_cons, List.not_mem_nil, or_false] at hx; rcases hx with rfl <;> first | exact trivial
    have r77 := (ow_k (ow_k rA o66) o75)
    have h78 := SliceOf.pl (Row.own KN0 r74 ok76)
    have hb86 : (List.length (a) + List.length ([m56])) * 64 ≤ 140737488355328 := by (simp only [List.length_cons, List.length_nil]; omega)
    have O87 : Only NoF w12 w73 := (Only.trans' (Only.trans' o47 o66) o75)
    obtain ⟨A79, c80, w81, hr82, r83, o84, al85⟩ := Row.app (P := Tryz.prog) (l := a) (l2 := [m56]) KN0 elemNote r77 h78 hb86 (by unfold maxLen; omega) (size_only O87)
    refine L (r_app hr82 Z rfl rfl) Z rfl ?_; clear Z az; intro az Z
    have ok88 : ∀ zq ∈ (a ++ [m56]), KN0.ok zq := (fun x hx => (List.mem_append.1 hx).elim ((fun _ _ => trivial) x) ((Row.oks KN0 h78) x))
    have h89 := Row.own KN0 r83 ok88
    refine L (r_as Z rfl) Z rfl ?_; clear Z az; intro az Z
    refine k71 _ _ (wp_seq_k fun _ k90 => wp_region_lit ?_)
    refine L (r_mv Z rfl) Z rfl ?_; clear Z az; intro az Z
    refine L (r_mv Z rfl) Z rfl ?_; clear Z az; intro az Z
    refine L (r_mv Z rfl) Z rfl ?_; clear Z az; intro az Z
    refine L (r_ia (k := i) (size := 5) Tryz.underlying22 Tryz.sizeOf43 Z rfl rfl rfl hk55 hA59) Z rfl ?_; clear Z az; intro az Z
    refine L (r_fa (m' := 0) Tryz.underlying43 rfl Tryz.sizeOf3 rfl Z rfl rfl) Z rfl ?_; clear Z az; intro az Z
    have O91 : Only NoF w w12 := (Only.trans' O10 o13)
    have O92 : Only NoF w w81 := (o_sg (Only.trans' (Only.trans' O61 o66) o75) o84 (size_only O91) (ownF_ge rA))
    have h93 := (SliceOf.kp t1.1 O92 (fun _ _ h => h) (fun _ _ _ _ h => h))
    have E94 := Row.ce KN0 h93 hm57 rfl
    refine L (r_ld Tryz.isAgg3 Z rfl ((E94 _ (Only.refl NoF w81)) 0 _ rfl)) Z rfl ?_; clear Z az; intro az Z
    refine L (r_mv Z rfl) Z rfl ?_; clear Z az; intro az Z
    refine L (r_mv Z rfl) Z rfl ?_; clear Z az; intro az Z
    refine L (r_bd (v := .agg #[.int .i64 (0), .int .i64 (m56.h), .int .i64 (399), strV ((if right m56 = true then encN m56 else []))]) (build_Ev4 _ _ _ _) Z rfl) Z rfl ?_; clear Z az; intro az Z
    obtain ⟨A95, w96, hw, hA, r97, o98⟩ := Row.made (w := w81) KEv (e := 45) ([(⟨0, m56.h, 399, (if right m56 = true then encN m56 else [])⟩ : Ev)] : List Ev) (by simp only [List.length_cons, List.length_nil]; unfold maxLen; omega)
    refine L (r_bs (z := .agg #[.int .i64 (0), .int .i64 (0), .int .i64 (0), strV ([])]) (size := 4) (vs := [(0, .agg #[.int .i64 (0), .int .i64 (m56.h), .int .i64 (399), strV ((if right m56 = true then encN m56 else []))])]) (cs := List.flatMap KEv.cells [(⟨0, m56.h, 399, (if right m56 = true then encN m56 else [])⟩ : Ev)]) Tryz.underlying38 Tryz.sizeOf45 Tryz.zeroValue45 rfl (Fr.evalps Z rfl) (by kernel_rfl)) Z rfl ?_
    rw [← hw, ← hA]; clear Z az; intro az Z
    clear hw hA
    have ok99 : ∀ zq ∈ ([(⟨0, m56.h, 399, (if right m56 = true then encN m56 else [])⟩ : Ev)] : List Ev), KEv.ok zq := by intro zq hx; simp only [List.mem_cons, List.not_mem_nil, or_false] at hx; rcases hx with rfl <;> first | exact (show I64 (0) ∧ I64 (m56.h) ∧ I64 (399) ∧ List.length ((if right m56 = true then encN m56 else []) : Str) ≤ maxLen from ⟨by unfold I64; omega, by unfold I64; omega, by unfold I64; omega, enc_ifl _⟩)
    have r100 := (ow_k (ow_only (ow_k (ow_k rD o66) o75) o84 (ow_ne (ow_k (ow_k rD o66) o75) r77 (by decide))) o98)
    have r101 := (ow_k (ow_only (ow_k (ow_k rS o66) o75) o84 (ow_ne (ow_k (ow_k rS o66) o75) r77 (by decide))) o98)
    have h102 := SliceOf.pl (Row.own KEv r97 ok99)
    have hb110 : (List.length (S) + List.length ([(⟨0, m56.h, 399, (if right m56 = true then encN m56 else [])⟩ : Ev)])) * 40 ≤ 140737488355328 := by (simp only [List.length_cons, List.length_nil]; omega)
    have O111 : Only NoF w12 w96 := (Only.trans' (o_sg O87 o84 (Nat.le_refl _) (ownF_ge rA)) o98)
    obtain ⟨A103, c104, w105, hr106, r107, o108, al109⟩ := Row.app (P := Tryz.prog) (l := S) (l2 := [(⟨0, m56.h, 399, (if right m56 = true then encN m56 else [])⟩ : Ev)]) KEv elemEv r101 h102 hb110 (by unfold maxLen; omega) (size_only O111)
    refine L (r_app hr106 Z rfl rfl) Z rfl ?_; clear Z az; intro az Z
    have ok112 : ∀ zq ∈ (S ++ [(⟨0, m56.h, 399, (if right m56 = true then encN m56 else [])⟩ : Ev)]), KEv.ok zq := (fun x hx => (List.mem_append.1 hx).elim (hokS x) ((Row.oks KEv h102) x))
    have h113 := Row.own KEv r107 ok112
    have r114 := (ow_only r100 o108 (fun k hk hF => hsep k hF hk))
    have sep115 : ∀ k, ownF (.slice A103 (((S ++ [(⟨0, m56.h, 399, (if right m56 = true then encN m56 else [])⟩ : Ev)])).length) c104) k → ¬ ownF (.slice Ad (D.length) cd) k := fun k h h2 => (app_Fg al109 h).elim (fun h => hsep k h h2) (fun h => by have h3 := ownF_lt r100 k h2; omega)
    refine L (r_as Z rfl) Z rfl ?_; clear Z az; intro az Z
    refine k90 _ _ ?_
    refine wp_region_lit ?_
    refine L (r_mv Z rfl) Z rfl ?_; clear Z az; intro az Z
    refine L (r_bd (v := .agg #[.int .i64 (1), .int .i64 (0), .int .i64 (0), strV ([])]) (build_Ev1 _) Z rfl) Z rfl ?_; clear Z az; intro az Z
    obtain ⟨A116, w117, hw, hA, r118, o119⟩ := Row.made (w := w105) KEv (e := 45) ([(⟨1, 0, 0, []⟩ : Ev)] : List Ev) (by simp only [List.length_cons, List.length_nil]; unfold maxLen; omega)
    refine L (r_bs (z := .agg #[.int .i64 (0), .int .i64 (0), .int .i64 (0), strV ([])]) (size := 4) (vs := [(0, .agg #[.int .i64 (1), .int .i64 (0), .int .i64 (0), strV ([])])]) (cs := List.flatMap KEv.cells [(⟨1, 0, 0, []⟩ : Ev)]) Tryz.underlying38 Tryz.sizeOf45 Tryz.zeroValue45 rfl (Fr.evalps Z rfl) (by kernel_rfl)) Z rfl ?_
    rw [← hw, ← hA]; clear Z az; intro az Z
    clear hw hA
    have ok120 : ∀ zq ∈ ([(⟨1, 0, 0, []⟩ : Ev)] : List Ev), KEv.ok zq := by intro zq hx; simp only [List.mem_cons, List.not_mem_nil, or_false] at hx; rcases hx with rfl <;> first | exact (show I64 (1) ∧ I64 (0) ∧ I64 (0) ∧ List.length ([] : Str) ≤ maxLen from ⟨by unfold I64; omega, by unfold I64; omega, by unfold I64; omega, by decide⟩)
    have r121 := (ow_k r107 o119)
    have r122 := (ow_k r114 o119)
    have h123 := SliceOf.pl (Row.own KEv r118 ok120)
    have hb131 : (List.length (D) + List.length ([(⟨1, 0, 0, []⟩ : Ev)])) * 40 ≤ 140737488355328 := by (simp only [List.length_cons, List.length_nil]; omega)
    have O132 : Only NoF w12 w117 := (Only.trans' (o_sg O111 o108 (Nat.le_refl _) (ownF_ge rS)) o119)
    obtain ⟨A124, c125, w126, hr127, r128, o129, al130⟩ := Row.app (P := Tryz.prog) (l := D) (l2 := [(⟨1, 0, 0, []⟩ : Ev)]) KEv elemEv r122 h123 hb131 (by unfold maxLen; omega) (size_only O132)
    refine L (r_app hr127 Z rfl rfl) Z rfl ?_; clear Z az; intro az Z
    have ok133 : ∀ zq ∈ (D ++ [(⟨1, 0, 0, []⟩ : Ev)]), KEv.ok zq := (fun x hx => (List.mem_append.1 hx).elim (hokD x) ((Row.oks KEv h123) x))
    have h134 := Row.own KEv r128 ok133
    have r135 := (ow_only r121 o129 (fun k hk hF => sep115 k hk hF))
    have sep136 : ∀ k, ownF (.slice A103 (((S ++ [(⟨0, m56.h, 399, (if right m56 = true then encN m56 else [])⟩ : Ev)])).length) c104) k → ¬ ownF (.slice A124 (((D ++ [(⟨1, 0, 0, []⟩ : Ev)])).length) c125) k := fun k h h2 => (app_Fg al130 h2).elim (fun h2 => sep115 k h h2) (fun h3 => by have h4 := ownF_lt r121 k h; omega)
    refine L (r_as Z rfl) Z rfl ?_; clear Z az; intro az Z
    refine k53 _ _ ?_
    refine wp_region_lit ?_
    refine L (r_mv Z rfl) Z rfl ?_; clear Z az; intro az Z
    have i137 : I64 (((i : Int) + 1)) := by unfold I64; omega
    refine L (r_addI (r := ((i : Int) + 1)) Z rfl rfl rfl i137) Z rfl ?_; clear Z az; intro az Z
    refine L (r_as Z rfl) Z rfl ?_; clear Z az; intro az Z
    have O138 : Only NoF w12 w126 := (o_sg O132 o129 (Nat.le_refl _) (ownF_ge rD))
    have r139 := (ow_only (ow_k (ow_only (ow_k r83 o98) o108 (ow_ne (ow_k r83 o98) r101 (by decide))) o119) o129 (ow_ne (ow_k (ow_only (ow_k r83 o98) o108 (ow_ne (ow_k r83 o98) r101 (by decide))) o119) r122 (by decide)))
    exact ⟨_, (by omega), i + 1, (a ++ [m56]), (S ++ [(⟨0, m56.h, 399, (if right m56 = true then encN m56 else [])⟩ : Ev)]), (D ++ [(⟨1, 0, 0, []⟩ : Ev)]), A79, c80, A103, c104, A124, c125, rfl, Z.cut ⟨rfl, rfl, rfl, rfl, rfl, rfl, rfl, rfl, trivial⟩, (by omega), (air_add ha (List.mem_of_getElem? hm57) hair), (by simp only [List.length_append, List.length_cons, List.length_nil]; omega), (evS_step hair hS), (evD_step hD), sep136, O138, r139, r135, r128⟩
   ·
    have d140 := hc68
    refine wp_skip ?_
    refine k53 _ _ ?_
    refine wp_region_lit ?_
    refine L (r_mv Z rfl) Z rfl ?_; clear Z az; intro az Z
    have i141 : I64 (((i : Int) + 1)) := by unfold I64; omega
    refine L (r_addI (r := ((i : Int) + 1)) Z rfl rfl rfl i141) Z rfl ?_; clear Z az; intro az Z
    refine L (r_as Z rfl) Z rfl ?_; clear Z az; intro az Z
    have O142 : Only NoF w12 w65 := (Only.trans' o47 o66)
    have r143 := (ow_k rA o66)
    have r144 := (ow_k rS o66)
    have r145 := (ow_k rD o66)
    exact ⟨_, (by omega), i + 1, a, S, D, Aa, ca, As, cs, Ad, cd, rfl, Z.cut ⟨rfl, rfl, rfl, rfl, rfl, rfl, rfl, rfl, trivial⟩, (by omega), ha, (by omega), hS, hD, hsep, O142, r143, r144, r145⟩
  ·
   have p146 := of_decide_eq_false hc51
   refine wp_exit ?_
   refine th_exit ?_
   refine th_exit ?_
   refine ib_hit ?_
   refine k39 _ _ (wp_seq_k fun _ k147 => ?_)
   refine wp_seq_k fun _ k148 => wp_region_lit ?_
   refine L (r_as Z rfl) Z rfl ?_; clear Z az; intro az Z
   refine k148 _ _ ?_
   refine wp_block ?_
   refine wp_loop_m (fun mz az W => ∃ j : Nat, mz = E.length - j ∧ Fr 177 [(1, .slice A2 (E.length) c2), (5, .bool (true)), (6, .int .i64 (399)), (7, .slice Aa (a.length) ca), (8, .slice As (S.length) cs), (9, .slice Ad (D.length) cd), (13, .int .i64 ((j : Int)))] az ∧ (j ≤ E.length) ∧ (∀ e ∈ List.take j E, decide (e.k = 0) = false) ∧ Only NoF w46 W) ?_ ?_
   ·
    exact ⟨_, 0, rfl, Z.cut ⟨rfl, rfl, rfl, rfl, rfl, rfl, rfl, trivial⟩, Nat.zero_le _, tk_nil, (Only.refl NoF w46)⟩
   clear Z az
   rintro mz az w149 ⟨j, hm151, Z, hj, hE, o150⟩
   refine wp_seq_k fun _ k152 => ?_
   refine wp_seq_k fun _ k153 => wp_region_lit ?_
   refine L (r_mv Z rfl) Z rfl ?_; clear Z az; intro az Z
   refine L (r_mv Z rfl) Z rfl ?_; clear Z az; intro az Z
   refine L (r_lenL Tryz.underlying38 Z rfl) Z rfl ?_; clear Z az; intro az Z
   refine L (r_ltI Z rfl rfl) Z rfl ?_; clear Z az; intro az Z
   refine k153 _ _ ?_
   refine br Z rfl (fun hc154 => ?_) (fun hc154 => ?_)
   ·
    have p155 := of_decide_eq_true hc154
    refine wp_skip ?_
    refine k152 _ _ (wp_seq_k fun _ k156 => ?_)
    refine wp_block ?_
    refine wp_seq_k fun _ k157 => wp_region_lit ?_
    refine L (r_mv Z rfl) Z rfl ?_; clear Z az; intro az Z
    refine L (r_mv Z rfl) Z rfl ?_; clear Z az; intro az Z
    have hk158 : j < (E).length := by omega
    have O164 : Only NoF w w149 := (Only.trans' (Only.trans' (Only.trans' O10 o13) o47) o150)
    have h165 := (SliceOf.kp f2 O164 (fun _ _ h => h) (fun _ _ _ _ h => h))
    obtain ⟨m159, hm160, ok161, hA162⟩ := Row.el KEv h165 hk158
    have E163 : ∀ W, Only NoF w149 W → CA W (eA A2 4 (j)) [.int .i64 (m159.k), .int .i64 (m159.a), .int .i64 (m159.b), strV (m159.t)] := Row.ce KEv h165 hm160 rfl
    refine L (r_ia (k := j) (size := 4) Tryz.underlying38 Tryz.sizeOf45 Z rfl rfl rfl hk158 hA162) Z rfl ?_; clear Z az; intro az Z
    refine L (r_fa (m' := 0) Tryz.underlying45 rfl Tryz.sizeOf3 rfl Z rfl rfl) Z rfl ?_; clear Z az; intro az Z
    refine L (r_ld Tryz.isAgg3 Z rfl ((E163 _ (Only.refl NoF w149)) 0 _ rfl)) Z rfl ?_; clear Z az; intro az Z
    refine L (r_eqI Z rfl rfl) Z rfl ?_; clear Z az; intro az Z
    refine k157 _ _ ?_
    refine br Z rfl (fun hc166 => ?_) (fun hc166 => ?_)
    ·
     have p167 := of_decide_eq_true hc166
     refine wp_seq_k fun _ k168 => wp_region_lit ?_
     refine L (r_mv Z rfl) Z rfl ?_; clear Z az; intro az Z
     refine L (r_as Z rfl) Z rfl ?_; clear Z az; intro az Z
     refine k168 _ _ ?_
     refine wp_ret ?_
     show bodyPost _ _ _ .ret _ _
     refine ret_of (vs := [.bool (true)]) Z Tryz.results4 ⟨rfl, trivial⟩ ?_
     exact ⟨rfl, O164⟩
    ·
     have p169 := of_decide_eq_false hc166
     refine wp_skip ?_
     refine k156 _ _ ?_
     refine wp_region_lit ?_
     refine L (r_mv Z rfl) Z rfl ?_; clear Z az; intro az Z
     have i170 : I64 (((j : Int) + 1)) := by unfold I64; omega
     refine L (r_addI (r := ((j : Int) + 1)) Z rfl rfl rfl i170) Z rfl ?_; clear Z az; intro az Z
     refine L (r_as Z rfl) Z rfl ?_; clear Z az; intro az Z
     exact ⟨_, (by omega), j + 1, rfl, Z.cut ⟨rfl, rfl, rfl, rfl, rfl, rfl, rfl, trivial⟩, (by omega), (tk_step hE hm160 hc166), o150⟩
   ·
    have p171 := of_decide_eq_false hc154
    refine wp_exit ?_
    refine th_exit ?_
    refine th_exit ?_
    refine ib_hit ?_
    refine k147 _ _ (wp_seq_k fun _ k172 => wp_region_lit ?_)
    refine L (r_bd (v := .agg #[.slice none (0) 0, .slice none (0) 0]) (build_Air0) Z rfl) Z rfl ?_; clear Z az; intro az Z
    refine L (r_mv Z rfl) Z rfl ?_; clear Z az; intro az Z
    obtain ⟨r1, hr1⟩ : ∃ r, r = Lnk.run (⟨[], []⟩ : Air) S := ⟨_, rfl⟩
    have r186 := (ow_k rS o150)
    have hC187 := to_r hr1 (Run_v0 (a := (⟨[], []⟩ : Air)) (l := S) ⟨_, _, rfl, SliceOf.nil_ _ _ _, SliceOf.nil_ _ _ _⟩ (SliceOf.pl (Row.own KEv r186 hokS)) (by show (0 : Nat) + S.length ≤ 1000000; omega))
    refine LC Z rfl rfl Tryz.call26 (hC187) rfl ?_
    rintro e w188 ⟨A173, c174, A175, c176, A177, c178, A179, c180, rfl, h181, h182, h183, h184, o185⟩; refine ⟨_, rfl, ?_⟩
    clear Z az; intro az Z
    have hr1e : r1.1 = ⟨a.map msgN, []⟩ := by rw [hr1, hS]; exact run_1 (fun x hx => (ha x hx).2) (by omega)
    have hms : r1.1.ms = a.map msgN := by rw [hr1e]
    have hcs : r1.1.cs = [] := by rw [hr1e]
    refine L (r_mv Z rfl) Z rfl ?_; clear Z az; intro az Z
    refine L (r_ex Z rfl rfl) Z rfl ?_; clear Z az; intro az Z
    refine L (r_ex Z rfl rfl) Z rfl ?_; clear Z az; intro az Z
    refine L (r_ex Z rfl rfl) Z rfl ?_; clear Z az; intro az Z
    refine LAl (v := .agg #[.slice none (0) 0, .slice none (0) 0]) Tryz.zeroValue49 Z rfl rfl ?_
    clear Z az; intro g189 w190 hg193 hl194 o191 B192 az Z
    refine LSt (cs' := [.slice A173 (r1.1.ms.length) c174, .slice A175 (r1.1.cs.length) c176]) Tryz.sizeOf49 Z rfl rfl rfl rfl rfl ⟨rfl, rfl, trivial⟩ B192 rfl rfl fun w195 s196 B197 => ?_
    refine L (r_as Z rfl) Z rfl ?_; clear Z az; intro az Z
    refine L (r_as Z rfl) Z rfl ?_; clear Z az; intro az Z
    refine k172 _ _ (wp_seq_k fun _ k198 => wp_region_lit ?_)
    refine L (r_ldA Tryz.isAgg49 Tryz.sizeOf49 Z rfl (Blk.ca B197) rfl) Z rfl ?_; clear Z az; intro az Z
    refine L (r_mv Z rfl) Z rfl ?_; clear Z az; intro az Z
    have O199 : Only NoF w188 w195 := (o_sg o191 s196 (Nat.le_refl _) (oneF_ge hg193))
    have h200 := (SliceOf.kp h181 O199 (fun _ _ h => h) (fun _ _ _ _ h => h))
    have h201 := SliceOf.pl h200
    have h202 := (SliceOf.kp h182 O199 (fun _ _ h => h) (fun _ _ _ _ h => h))
    have h203 := SliceOf.pl h202
    obtain ⟨r2, hr2⟩ : ∃ r, r = Lnk.run r1.1 E := ⟨_, rfl⟩
    have O217 : Only NoF w w188 := (Only.trans' (Only.trans' (Only.trans' (Only.trans' O10 o13) o47) o150) o185)
    have O218 : Only NoF w w195 := (o_sg (Only.trans' (Only.trans' (Only.trans' (Only.trans' (Only.trans' O10 o13) o47) o150) o185) o191) s196 (size_only O217) (oneF_ge hg193))
    have h219 := (SliceOf.kp f2 O218 (fun _ _ h => h) (fun _ _ _ _ h => h))
    have hC220 := to_r hr2 (Run_v0 (a := r1.1) (l := E) ⟨_, _, rfl, h201, h203⟩ (h219) (by rw [hcs]; show (0 : Nat) + E.length ≤ 1000000; omega))
    refine LC Z rfl rfl Tryz.call26 (hC220) rfl ?_
    rintro e w221 ⟨A204, c205, A206, c207, A208, c209, A210, c211, rfl, h212, h213, h214, h215, o216⟩; refine ⟨_, rfl, ?_⟩
    clear Z az; intro az Z
    have hc2 : ∀ m ∈ r2.2.1, ∃ x ∈ a, m = msgN x := by rw [hr2, hr1e]; exact run_2 (fun x hx => (ha x hx).2) (by omega) (fun e he => of_decide_eq_false (tk_all hE (by omega) e he))
    obtain ⟨l2, hl2, hm2⟩ := of_msgs hc2
    have hl2l : l2.length ≤ 30 := by have h0 := came_len r1.1 E; rw [← hr2, hl2, List.length_map] at h0; omega
    refine L (r_mv Z rfl) Z rfl ?_; clear Z az; intro az Z
    refine L (r_ex Z rfl rfl) Z rfl ?_; clear Z az; intro az Z
    refine L (r_ex Z rfl rfl) Z rfl ?_; clear Z az; intro az Z
    refine L (r_ex Z rfl rfl) Z rfl ?_; clear Z az; intro az Z
    refine LAl (v := .agg #[.slice none (0) 0, .slice none (0) 0]) Tryz.zeroValue49 Z rfl rfl ?_
    clear Z az; intro g222 w223 hg226 hl227 o224 B225 az Z
    refine LSt (cs' := [.slice A204 (r2.1.ms.length) c205, .slice A206 (r2.1.cs.length) c207]) Tryz.sizeOf49 Z rfl rfl rfl rfl rfl ⟨rfl, rfl, trivial⟩ B225 rfl rfl fun w228 s229 B230 => ?_
    refine L (r_as Z rfl) Z rfl ?_; clear Z az; intro az Z
    refine L (r_as Z rfl) Z rfl ?_; clear Z az; intro az Z
    refine k198 _ _ (wp_seq_k fun _ k231 => wp_region_lit ?_)
    refine L (r_mv Z rfl) Z rfl ?_; clear Z az; intro az Z
    refine L (r_mv Z rfl) Z rfl ?_; clear Z az; intro az Z
    have O239 : Only NoF w w221 := (Only.trans' O218 o216)
    have O240 : Only NoF w w228 := (o_sg (Only.trans' (Only.trans' O218 o216) o224) s229 (size_only O239) (oneF_ge hg226))
    have G238 := Gr.k hG O240
    have O241 : Only NoF w221 w228 := (o_sg o224 s229 (Nat.le_refl _) (oneF_ge hg226))
    have h242 := (SliceOf.kp h214 O241 (fun _ _ h => h) (fun _ _ _ _ h => h))
    have h243 := SliceOf.pl h242
    have hC244 := heard_v_ G238 (l := l2) (fun x hx => air_right (ha x (hm2 x hx)).2) (by omega) hl2 h243
    refine LC Z rfl rfl Tryz.call27 (hC244) rfl ?_
    rintro e w245 ⟨A232, c233, O234, rfl, hO235, nt236, o237⟩; refine ⟨_, rfl, ?_⟩
    clear Z az; intro az Z
    have hOl1 : O234.length = l2.length := by have h0 := congrArg List.length hO235; rwa [List.length_map, List.length_map] at h0
    refine L (r_mv Z rfl) Z rfl ?_; clear Z az; intro az Z
    refine L (r_ex Z rfl rfl) Z rfl ?_; clear Z az; intro az Z
    refine L (r_ex Z rfl rfl) Z rfl ?_; clear Z az; intro az Z
    refine L (r_as Z rfl) Z rfl ?_; clear Z az; intro az Z
    refine L (r_as Z rfl) Z rfl ?_; clear Z az; intro az Z
    refine k231 _ _ (wp_seq_k fun _ k246 => ?_)
    refine wp_seq_k fun _ k247 => wp_region_lit ?_
    refine L (r_mv Z rfl) Z rfl ?_; clear Z az; intro az Z
    refine L (r_not Z rfl) Z rfl ?_; clear Z az; intro az Z
    refine L (r_mv Z rfl) Z rfl ?_; clear Z az; intro az Z
    refine LT Z rfl rfl (r_fa (m' := 0) Tryz.underlying49 rfl Tryz.sizeOf46 rfl Z rfl rfl) rfl ?_; clear Z az; intro az Z
    have O249 := (Only.trans (Only.trans (Only.refl (fun _ => True) w190) s196 (fun _ _ => .inl trivial)) o216 (fun _ _ => .inl trivial))
    have ne248 : g189 ≠ g222 := (ne_of hl194 (Nat.le_trans (size_only O249) hg226))
    have B250 := (Blk.k (Blk.st (Blk.k (Blk.k B197 o216) o224) s229 ne248) o237)
    refine LT Z rfl rfl (r_ld Tryz.isAgg46 Z rfl ((Blk.ca B250) 0 _ rfl)) rfl ?_; clear Z az; intro az Z
    refine LT Z rfl rfl (r_lenL Tryz.underlying46 Z rfl) rfl ?_; clear Z az; intro az Z
    refine LT Z rfl rfl (r_mv Z rfl) rfl ?_; clear Z az; intro az Z
    refine LT Z rfl rfl (r_lenL Tryz.underlying22 Z rfl) rfl ?_; clear Z az; intro az Z
    refine LT Z rfl rfl ((r_cast (b := false) (r_neI Z rfl rfl) (congrArg not (decide_eq_true (by rw [hms, List.length_map]))))) rfl ?_; clear Z az; intro az Z
    refine L (r_pick Z rfl rfl rfl) Z rfl ?_; clear Z az; intro az Z
    refine k247 _ _ ?_
    refine br_false Z rfl ?_
    refine wp_skip ?_
    refine k246 _ _ (wp_seq_k fun _ k251 => ?_)
    refine wp_seq_k fun _ k252 => wp_region_lit ?_
    refine L (r_as Z rfl) Z rfl ?_; clear Z az; intro az Z
    refine k252 _ _ ?_
    refine wp_block ?_
    refine wp_loop_m (fun mz az W => ∃ k : Nat, mz = O234.length - k ∧ Fr 177 [(5, .bool (true)), (6, .int .i64 (399)), (7, .slice Aa (a.length) ca), (9, .slice Ad (D.length) cd), (14, .pointer (some ((⟨g189, 0, none⟩ : Addr)))), (20, .slice A232 (O234.length) c233), (22, .int .i64 ((k : Int)))] az ∧ (k ≤ O234.length) ∧ Only NoF w245 W) ?_ ?_
    ·
     exact ⟨_, 0, rfl, Z.cut ⟨rfl, rfl, rfl, rfl, rfl, rfl, rfl, trivial⟩, Nat.zero_le _, (Only.refl NoF w245)⟩
    clear Z az
    rintro mz az w253 ⟨k, hm255, Z, hk, o254⟩
    refine wp_seq_k fun _ k256 => ?_
    refine wp_seq_k fun _ k257 => wp_region_lit ?_
    refine L (r_mv Z rfl) Z rfl ?_; clear Z az; intro az Z
    refine L (r_mv Z rfl) Z rfl ?_; clear Z az; intro az Z
    refine L (r_lenL Tryz.underlying22 Z rfl) Z rfl ?_; clear Z az; intro az Z
    refine L (r_ltI Z rfl rfl) Z rfl ?_; clear Z az; intro az Z
    refine k257 _ _ ?_
    refine br Z rfl (fun hc258 => ?_) (fun hc258 => ?_)
    ·
     have p259 := of_decide_eq_true hc258
     refine wp_skip ?_
     refine k256 _ _ (wp_seq_k fun _ k260 => ?_)
     refine wp_block ?_
     refine wp_seq_k fun _ k261 => wp_region_lit ?_
     refine L (r_mv Z rfl) Z rfl ?_; clear Z az; intro az Z
     refine L (r_mv Z rfl) Z rfl ?_; clear Z az; intro az Z
     refine L (r_mv Z rfl) Z rfl ?_; clear Z az; intro az Z
     have hk262 : k < (O234).length := by omega
     have h268 := (SliceOf.kp nt236.1 o254 (fun _ _ h => h) (fun _ _ _ _ h => h))
     obtain ⟨m263, hm264, ok265, hA266⟩ := Row.el KN0 h268 hk262
     have E267 : ∀ W, Only NoF w253 W → CA W (eA A232 5 (k)) [.int .i64 (m263.h), .int .i64 (m263.n), .int .i64 (m263.d), .slice m263.A (m263.l.length) m263.c, strV (m263.s)] := Row.ce KN0 h268 hm264 rfl
     refine L (r_ia (k := k) (size := 5) Tryz.underlying22 Tryz.sizeOf43 Z rfl rfl rfl hk262 hA266) Z rfl ?_; clear Z az; intro az Z
     refine L (r_ldA Tryz.isAgg43 Tryz.sizeOf43 Z rfl (E267 _ (Only.refl NoF w253)) rfl) Z rfl ?_; clear Z az; intro az Z
     have O269 : Only NoF w w253 := (Only.trans' (Only.trans' O240 o237) o254)
     have O271 : Only NoF w46 w188 := (Only.trans' o150 o185)
     have O272 : Only NoF w46 w221 := (Only.trans' (o_sg (Only.trans' O271 o191) s196 (size_only O271) (oneF_ge hg193)) o216)
     have r273 := (ow_k (ow_k (ow_only (ow_k (ow_k (ow_only (ow_k (ow_k (ow_k rA o150) o185) o191) s196 (fun k hk => lt_F (oneF_ge hg193) (size_only O271) k (ownF_lt rA k hk))) o216) o224) s229 (fun k hk => lt_F (oneF_ge hg226) (size_only O272) k (ownF_lt rA k hk))) o237) o254)
     have nt270 : NtV w253 (.slice Aa (a.length) ca) a := ⟨SliceOf.pl (Row.own KN0 r273 (fun _ _ => trivial)), (OkNs.k hokA O269)⟩
     have h274 := (SliceOf.kp (nt236.2 _ (List.mem_of_getElem? hm264)).2.2.2.1 o254 (fun _ _ h => h) (fun _ _ _ _ h => h))
     refine LCV (v := .bool (true)) Z rfl rfl Tryz.call28 (fix_eq (congrArg Value.bool (heard_has (l := l2) hO235 hm2 hm264)) (has39_v_ nt270 (x := m263) (okN.k (nt236.2 _ (List.mem_of_getElem? hm264)) o254))) rfl fun w275 o276 => ?_; clear Z az; intro az Z
     refine L (r_not Z rfl) Z rfl ?_; clear Z az; intro az Z
     refine k261 _ _ ?_
     refine br_false Z rfl ?_
     refine wp_skip ?_
     refine k260 _ _ ?_
     refine wp_region_lit ?_
     refine L (r_mv Z rfl) Z rfl ?_; clear Z az; intro az Z
     have i277 : I64 (((k : Int) + 1)) := by unfold I64; omega
     refine L (r_addI (r := ((k : Int) + 1)) Z rfl rfl rfl i277) Z rfl ?_; clear Z az; intro az Z
     refine L (r_as Z rfl) Z rfl ?_; clear Z az; intro az Z
     have O278 : Only NoF w245 w275 := (Only.trans' o254 o276)
     exact ⟨_, (by omega), k + 1, rfl, Z.cut ⟨rfl, rfl, rfl, rfl, rfl, rfl, rfl, trivial⟩, (by omega), O278⟩
    ·
     have p279 := of_decide_eq_false hc258
     refine wp_exit ?_
     refine th_exit ?_
     refine th_exit ?_
     refine ib_hit ?_
     refine k251 _ _ (wp_seq_k fun _ k280 => wp_region_lit ?_)
     have B281 := (Blk.k B250 o254)
     refine L (r_ldA Tryz.isAgg49 Tryz.sizeOf49 Z rfl (Blk.ca B281) rfl) Z rfl ?_; clear Z az; intro az Z
     refine L (r_mv Z rfl) Z rfl ?_; clear Z az; intro az Z
     have O282 : Only NoF w188 w221 := (Only.trans' O199 o216)
     have O283 : Only NoF w188 w253 := (Only.trans' (Only.trans' (o_sg (Only.trans' (Only.trans' O199 o216) o224) s229 (size_only O282) (oneF_ge hg226)) o237) o254)
     have h284 := (SliceOf.kp h181 O283 (fun _ _ h => h) (fun _ _ _ _ h => h))
     have h285 := SliceOf.pl h284
     have h286 := (SliceOf.kp h182 O283 (fun _ _ h => h) (fun _ _ _ _ h => h))
     have h287 := SliceOf.pl h286
     obtain ⟨r3, hr3⟩ : ∃ r, r = Lnk.run r1.1 D := ⟨_, rfl⟩
     have O301 : Only NoF w46 w188 := (Only.trans' o150 o185)
     have O302 : Only NoF w46 w221 := (Only.trans' (o_sg (Only.trans' O301 o191) s196 (size_only O301) (oneF_ge hg193)) o216)
     have r303 := (ow_k (ow_k (ow_only (ow_k (ow_k (ow_only (ow_k (ow_k (ow_k rD o150) o185) o191) s196 (fun k hk => lt_F (oneF_ge hg193) (size_only O301) k (ownF_lt rD k hk))) o216) o224) s229 (fun k hk => lt_F (oneF_ge hg226) (size_only O302) k (ownF_lt rD k hk))) o237) o254)
     have hC304 := to_r hr3 (Run_v0 (a := r1.1) (l := D) ⟨_, _, rfl, h285, h287⟩ (SliceOf.pl (Row.own KEv r303 hokD)) (by rw [hcs]; show (0 : Nat) + D.length ≤ 1000000; omega))
     refine LC Z rfl rfl Tryz.call26 (hC304) rfl ?_
     rintro e w305 ⟨A288, c289, A290, c291, A292, c293, A294, c295, rfl, h296, h297, h298, h299, o300⟩; refine ⟨_, rfl, ?_⟩
     clear Z az; intro az Z
     have hc3 : r3.2.1 = a.map msgN := by rw [hr3, hr1e, hD]; exact run_3 (fun x hx => (ha x hx).2) (by omega)
     refine L (r_mv Z rfl) Z rfl ?_; clear Z az; intro az Z
     refine L (r_ex Z rfl rfl) Z rfl ?_; clear Z az; intro az Z
     refine L (r_ex Z rfl rfl) Z rfl ?_; clear Z az; intro az Z
     refine L (r_ex Z rfl rfl) Z rfl ?_; clear Z az; intro az Z
     refine LAl (v := .agg #[.slice none (0) 0, .slice none (0) 0]) Tryz.zeroValue49 Z rfl rfl ?_
     clear Z az; intro g306 w307 hg310 hl311 o308 B309 az Z
     refine LSt (cs' := [.slice A288 (r3.1.ms.length) c289, .slice A290 (r3.1.cs.length) c291]) Tryz.sizeOf49 Z rfl rfl rfl rfl rfl ⟨rfl, rfl, trivial⟩ B309 rfl rfl fun w312 s313 B314 => ?_
     refine L (r_as Z rfl) Z rfl ?_; clear Z az; intro az Z
     refine L (r_as Z rfl) Z rfl ?_; clear Z az; intro az Z
     refine k280 _ _ (wp_seq_k fun _ k315 => wp_region_lit ?_)
     refine L (r_mv Z rfl) Z rfl ?_; clear Z az; intro az Z
     refine L (r_mv Z rfl) Z rfl ?_; clear Z az; intro az Z
     have O323 : Only NoF w w305 := (Only.trans' (Only.trans' (Only.trans' O240 o237) o254) o300)
     have O324 : Only NoF w w312 := (o_sg (Only.trans' (Only.trans' (Only.trans' (Only.trans' O240 o237) o254) o300) o308) s313 (size_only O323) (oneF_ge hg310))
     have G322 := Gr.k hG O324
     have O325 : Only NoF w305 w312 := (o_sg o308 s313 (Nat.le_refl _) (oneF_ge hg310))
     have h326 := (SliceOf.kp h298 O325 (fun _ _ h => h) (fun _ _ _ _ h => h))
     have h327 := SliceOf.pl h326
     have hC328 := heard_v_ G322 (l := a) (fun x hx => air_right (ha x hx).2) (by omega) hc3 h327
     refine LC Z rfl rfl Tryz.call27 (hC328) rfl ?_
     rintro e w329 ⟨A316, c317, O318, rfl, hO319, nt320, o321⟩; refine ⟨_, rfl, ?_⟩
     clear Z az; intro az Z
     have hOl2 : O318.length = a.length := by have h0 := congrArg List.length hO319; rwa [List.length_map, List.length_map] at h0
     refine L (r_mv Z rfl) Z rfl ?_; clear Z az; intro az Z
     refine L (r_ex Z rfl rfl) Z rfl ?_; clear Z az; intro az Z
     refine L (r_ex Z rfl rfl) Z rfl ?_; clear Z az; intro az Z
     refine L (r_as Z rfl) Z rfl ?_; clear Z az; intro az Z
     refine L (r_as Z rfl) Z rfl ?_; clear Z az; intro az Z
     refine k315 _ _ (wp_seq_k fun _ k330 => wp_region_lit ?_)
     refine L (r_mv Z rfl) Z rfl ?_; clear Z az; intro az Z
     refine L (r_mv Z rfl) Z rfl ?_; clear Z az; intro az Z
     have O332 : Only NoF w w329 := (Only.trans' O324 o321)
     have G331 := Gr.k hG O332
     have O333 : Only NoF w245 w305 := (Only.trans' o254 o300)
     have O334 : Only NoF w245 w329 := (Only.trans' (o_sg (Only.trans' (Only.trans' o254 o300) o308) s313 (size_only O333) (oneF_ge hg310)) o321)
     have hC342 := Join_v_ G331 (NtV.k nt236 O334) nt320 (by first | omega | (simp only [List.length_cons, List.length_nil]; omega))
     refine LC Z rfl rfl Tryz.call10 (hC342) rfl ?_
     rintro e w343 ⟨A335, c336, L337, rfl, hL338, hS339, hN340, o341⟩; refine ⟨_, rfl, ?_⟩
     clear Z az; intro az Z
     have nt344 : NtV w343 (.slice A335 (L337.length) c336) L337 := ⟨SliceOf.pl hS339, OkNs.pl hN340⟩
     have hE345 : L337.map ns = joinN a := hL338.trans (heard_join (l := l2) hO235 hm2 hO319)
     have hm346 : L337.length ≤ 100 := (by have h0 := congrArg List.length hE345; rw [List.length_map] at h0; rw [h0]; exact Nat.le_trans (joinN_le _) (by (try simp only [List.length_append, List.length_cons, List.length_nil]); omega))
     refine L (r_as Z rfl) Z rfl ?_; clear Z az; intro az Z
     refine k330 _ _ (wp_seq_k fun _ k347 => wp_region_lit ?_)
     refine L (r_mv Z rfl) Z rfl ?_; clear Z az; intro az Z
     refine L (r_mv Z rfl) Z rfl ?_; clear Z az; intro az Z
     refine LT Z rfl rfl (r_mv Z rfl) rfl ?_; clear Z az; intro az Z
     refine L (r_pick Z rfl rfl rfl) Z rfl ?_; clear Z az; intro az Z
     refine L (r_mv Z rfl) Z rfl ?_; clear Z az; intro az Z
     refine LT Z rfl rfl (r_mv Z rfl) rfl ?_; clear Z az; intro az Z
     refine LT Z rfl rfl (r_mv Z rfl) rfl ?_; clear Z az; intro az Z
     have O349 : Only NoF w w343 := (Only.trans' O332 o341)
     have G348 := Gr.k hG O349
     have O351 : Only NoF w46 w305 := (Only.trans' (Only.trans' (Only.trans' (o_sg (Only.trans' O302 o224) s229 (size_only O302) (oneF_ge hg226)) o237) o254) o300)
     have r352 := (ow_k (ow_k (ow_only (ow_k (ow_k (ow_k (ow_k (ow_only (ow_k (ow_k (ow_only (ow_k (ow_k (ow_k rA o150) o185) o191) s196 (fun k hk => lt_F (oneF_ge hg193) (size_only O301) k (ownF_lt rA k hk))) o216) o224) s229 (fun k hk => lt_F (oneF_ge hg226) (size_only O302) k (ownF_lt rA k hk))) o237) o254) o300) o308) s313 (fun k hk => lt_F (oneF_ge hg310) (size_only O351) k (ownF_lt rA k hk))) o321) o341)
     have nt350 : NtV w343 (.slice Aa (a.length) ca) a := ⟨SliceOf.pl (Row.own KN0 r352 (fun _ _ => trivial)), (OkNs.k hokA O349)⟩
     have hC360 := Join1_v G348 nt350 (by omega)
     refine LCT Z rfl rfl rfl rfl Tryz.call10 (hC360) rfl ?_
     rintro e w361 ⟨A353, c354, L355, rfl, hL356, hS357, hN358, o359⟩; refine ⟨_, rfl, ?_⟩
     clear Z az; intro az Z
     have nt362 : NtV w361 (.slice A353 (L355.length) c354) L355 := ⟨SliceOf.pl hS357, OkNs.pl hN358⟩
     have hm363 : L355.length ≤ 100 := (ns_len_le hL356 (Nat.le_trans (joinN_le _) (by omega)))
     refine LGV (v := .bool (true)) Z rfl rfl gd_t rfl (fun hb => rfl) Tryz.call9 (fun hb => fix_eq (congrArg Value.bool (decide_eq_true (hE345.trans hL356.symm))) (rSameChain_v (NtV.notes (NtV.k nt344 o359)) (NtV.notes nt362))) rfl fun w364 o365 => ?_; clear Z az; intro az Z
     refine L (r_pick Z rfl rfl rfl) Z rfl ?_; clear Z az; intro az Z
     refine L (r_mv Z rfl) Z rfl ?_; clear Z az; intro az Z
     refine LT Z rfl rfl (r_mv Z rfl) rfl ?_; clear Z az; intro az Z
     have O367 : Only NoF w w364 := (Only.trans' (Only.trans' O349 o359) o365)
     have G366 := Gr.k hG O367
     have O368 : Only NoF w343 w364 := (Only.trans' o359 o365)
     have hC376 := to_j (fun J => NOut (orderN J) w364) (join_ns hE345) (Order_v_ G366 (NtV.k nt344 O368) (Nat.le_trans hm346 (by decide)))
     refine LCT Z rfl rfl rfl rfl Tryz.call17 (hC376) rfl ?_
     rintro e w377 ⟨A369, c370, L371, rfl, hL372, hS373, hN374, o375⟩; refine ⟨_, rfl, ?_⟩
     clear Z az; intro az Z
     have nt378 : NtV w377 (.slice A369 (L371.length) c370) L371 := ⟨SliceOf.pl hS373, OkNs.pl hN374⟩
     have hm379 : L371.length ≤ 1000000 := (ord_lim hL372 (by first | omega | ((try simp only [List.length_append, List.length_cons, List.length_nil]); omega)))
     refine LT Z rfl rfl (r_mv Z rfl) rfl ?_; clear Z az; intro az Z
     have O381 : Only NoF w w377 := (Only.trans' O367 o375)
     have G380 := Gr.k hG O381
     have r383 := (ow_k (ow_k (ow_k r352 o359) o365) o375)
     have nt382 : NtV w377 (.slice Aa (a.length) ca) a := ⟨SliceOf.pl (Row.own KN0 r383 (fun _ _ => trivial)), (OkNs.k hokA O381)⟩
     have hC391 := Order_v_ G380 nt382 (by omega)
     refine LCT Z rfl rfl rfl rfl Tryz.call17 (hC391) rfl ?_
     rintro e w392 ⟨A384, c385, L386, rfl, hL387, hS388, hN389, o390⟩; refine ⟨_, rfl, ?_⟩
     clear Z az; intro az Z
     have nt393 : NtV w392 (.slice A384 (L386.length) c385) L386 := ⟨SliceOf.pl hS388, OkNs.pl hN389⟩
     have hm394 : L386.length ≤ 1000000 := (ord_lim hL387 (by omega))
     refine LGV (v := .bool (true)) Z rfl rfl gd_t rfl (fun hb => rfl) Tryz.call9 (fun hb => fix_eq (congrArg Value.bool (decide_eq_true (hL372.trans hL387.symm))) (rSameChain_v (NtV.notes (NtV.k nt378 o390)) (NtV.notes nt393))) rfl fun w395 o396 => ?_; clear Z az; intro az Z
     refine L (r_pick Z rfl rfl rfl) Z rfl ?_; clear Z az; intro az Z
     refine L (r_as Z rfl) Z rfl ?_; clear Z az; intro az Z
     refine k347 _ _ ?_
     refine wp_ret ?_
     show bodyPost _ _ _ .ret _ _
     refine ret_of (vs := [.bool (true)]) Z Tryz.results4 ⟨rfl, trivial⟩ ?_
     have O397 : Only NoF w w395 := (Only.trans' (Only.trans' O381 o390) o396)
     exact ⟨rfl, O397⟩
theorem air39_v {w : World} (hG : Gr w) {v1 v2 : Value} {La : List NM} (f1 : NotesV w w v1 La) {E : List Ev} (f2 : Evs w v2 E) : Calls Tryz.prog 4 #[v1, v2] w (Fix (.bool true) w) := by
 obtain ⟨A1, c1, rfl, _⟩ := SliceOf.shape f1
 obtain ⟨A2, c2, rfl, _⟩ := SliceOf.shape f2
 exact air39_ hG (NtV.of f1) f2
end
end Go.Proofs.YtdcbjedkddgfkaaGreatDoor
