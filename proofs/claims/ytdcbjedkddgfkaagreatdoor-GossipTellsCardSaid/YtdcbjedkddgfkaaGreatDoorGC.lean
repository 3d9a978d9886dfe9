/-
  Gossip: find, Forks, Past, ready, walked. Condition: the listed variables; at most 1,000,000 notes.
  Gossip: Forks, Past, ready, walked. Condition: the listed variables; at most 1,000,000 notes.
  Gossip: run, in plain Lean. No condition.
  Gossip: run, Order, Heads, walked. Condition: the listed variables; at most 1,000,000 notes.
-/
import Derived.Test.YtdcbjedkddgfkaaGreatDoorGB
namespace Go.Proofs.YtdcbjedkddgfkaaGreatDoor
set_option maxHeartbeats 4000000
set_option maxRecDepth 20000
set_option linter.unusedVariables false
set_option linter.unusedSimpArgs false
set_option linter.unusedSectionVars false
section
open Go.RowKit
section
variable {P : Program} {w : World} {n : Nat} {l : List (Nat × Value)} {a : Act} {dst : Option Tmp} {ty : TypeId} {pos : String} {aft : Array Edge} {g : Option (Nat × Bool)} {x y : Operand}
theorem r_ltL {k : IntKind} {p q : Int} {b : Bool} {t yt : TypeId} (H : Fr n l a) (hx : ev l x = some (.int k p)) (hy : ev l y = some (.int k q)) (hb : decide (p < q) = b) : (execOp a.eval ⟨dst, .binOp .lss t x y yt, ty, pos, aft, g⟩).run P w = .ok (.value (.bool b)) w := by
 subst hb
 exact r_ltI H hx hy
theorem r_cvU {src dt : TypeId} {u : TypeDesc} {p : Int} (hs : P.underlying src = some u) (hd : P.underlying dt = some (.int .u64)) (H : Fr n l a) (hx : ev l x = some (.int .i64 p)) (hp : 0 ≤ p ∧ p < 9223372036854775808) :
 (execOp a.eval ⟨dst, .convert src dt x, ty, pos, aft, g⟩).run P w = .ok (.value (.int .u64 p)) w := by
 have h := run_convert_int w src dt .i64 p (by rw [hs]; rfl) (by unfold Program.intKind; rw [hd])
 have e : P.intKind dt = .u64 := by unfold Program.intKind; rw [hd]
 have e2 : IntKind.u64.wrap p = p := by simp [IntKind.wrap, IntKind.signed, IntKind.bits]; omega
 rw [e, e2] at h
 simp [execOp, H.eval hx, h]
theorem r_cvS {src dt : TypeId} {u : TypeDesc} {p : Int} (hs : P.underlying src = some u) (hd : P.underlying dt = some (.int .i64)) (H : Fr n l a) (hx : ev l x = some (.int .u64 p)) (hp : 0 ≤ p ∧ p < 9223372036854775808) :
 (execOp a.eval ⟨dst, .convert src dt x, ty, pos, aft, g⟩).run P w = .ok (.value (.int .i64 p)) w := by
 have h := run_convert_int w src dt .u64 p (by rw [hs]; rfl) (by unfold Program.intKind; rw [hd])
 have e : P.intKind dt = .i64 := by unfold Program.intKind; rw [hd]
 have e2 : IntKind.i64.wrap p = p := IntWalk.i64_in _ ⟨by omega, by omega⟩
 rw [e, e2] at h
 simp [execOp, H.eval hx, h]
theorem r_shr1 {p r : Int} {t yt : TypeId} (H : Fr n l a) (hx : ev l x = some (.int .u64 p)) (hy : ev l y = some (.int .u64 1)) (hr : r = p / 2) : (execOp a.eval ⟨dst, .binOp .shr t x y yt, ty, pos, aft, g⟩).run P w = .ok (.value (.int .u64 r)) w := by
 subst hr
 have : Int.fdiv p 2 = p / 2 := Int.fdiv_eq_ediv_of_nonneg p (by decide)
 simp [execOp, H.eval hx, H.eval hy, eqGuard, binOp, Op.shift, IntKind.bits, this]
end
/-! ### where a search ends -/
section
variable {α : Type} {p : α → Bool} {l : List α} {i n h : Nat} {x : α}
/-- what comes ahead of a place that is below is below too -/
def PreP (p : α → Bool) (l : List α) : Prop := ∀ (i j : Nat) (x y : α), i ≤ j → l[i]? = some x → l[j]? = some y → p y = true → p x = true
theorem lo_up (hP : PreP p l) (hx : l[h]? = some x) (e : p x = true) : ∀ (q : Nat) (y : α), q < h + 1 → l[q]? = some y → p y = true := fun q y hq hy => hP q h y x (by omega) hy hx e
theorem lo_dn (hP : PreP p l) (hx : l[h]? = some x) (e : p x = false) : ∀ (q : Nat) (y : α), h ≤ q → l[q]? = some y → p y = false := fun q y hq hy => by
 cases e2 : p y
 · rfl
 · rw [hP h q x y hq hx hy e2] at e; cases e
end
/-- a house's own place -/
abbrev ltH (x : Int) : HR → Bool := fun y => decide (Lib.compareInt y.h x < 0)
def AscH (H : List HR) : Prop := ∀ (i j : Nat) (x y : HR), i < j → H[i]? = some x → H[j]? = some y → x.h < y.h
theorem ltH_iff {x : Int} {y : HR} : ltH x y = true ↔ y.h < x := by
 rw [decide_eq_true_eq]
 rcases ci_cases y.h x with ⟨h1, h2⟩ | ⟨h1, h2⟩ | ⟨h1, h2⟩ <;> rw [h2] <;> constructor <;> intro h <;> omega
theorem pre_of {H : List HR} {x : Int} (h : AscH H) : PreP (ltH x) H := by
 intro i j a b hij ha hb e
 rw [ltH_iff] at e ⊢
 rcases Nat.lt_or_ge i j with h1 | h1
 · have := h i j a b h1 ha hb; omega
 · have : i = j := by omega
   subst this
   rw [ha] at hb
   injection hb with hb
   subst hb; exact e
/-- what BinarySearchFunc says of houses -/
def BsrTo (x : Int) (H : List HR) (w : World) (e : Ending) (w' : World) : Prop := ∃ i : Nat, ∃ o : Option HR, e = .returned (.tuple #[.int .i64 (i : Int), .bool o.isSome]) ∧ H.find? (fun y => decide (y.h = x)) = o ∧ (∀ y : HR, o = some y → H[i]? = some y) ∧ Only NoF w w'
theorem find_no {H : List HR} {x : Int} (h : ∀ (q : Nat) (y : HR), H[q]? = some y → y.h ≠ x) : H.find? (fun y => decide (y.h = x)) = none := by
 rw [List.find?_eq_none]
 intro y hy
 obtain ⟨q, hq⟩ := List.getElem?_of_mem hy
 simpa using h q y hq
theorem find_at {H : List HR} {x : Int} {i : Nat} {y : HR} (hA : AscH H) (hi : H[i]? = some y) (e : y.h = x) : H.find? (fun y => decide (y.h = x)) = some y := by
 rw [List.find?_eq_some_iff_getElem]
 have hl := (List.getElem?_eq_some_iff.1 hi).1
 refine ⟨by simpa using e, i, hl, (List.getElem?_eq_some_iff.1 hi).2, fun j hj => ?_⟩
 have hjl : j < H.length := by omega
 have := hA j i H[j] y hj (List.getElem?_eq_getElem hjl) hi
 simp only [Bool.not_eq_true', decide_eq_false_iff_not]
 omega
theorem bs_no {H : List HR} {x : Int} {i : Nat} (hlo : ∀ (q : Nat) (y : HR), q < i → H[q]? = some y → ltH x y = true) (hhi : ∀ (q : Nat) (y : HR), i ≤ q → H[q]? = some y → ltH x y = false) (hA : AscH H) (h : ∀ y : HR, H[i]? = some y → y.h ≠ x) : H.find? (fun y => decide (y.h = x)) = none := by
 refine find_no fun q y hq e => ?_
 rcases Nat.lt_or_ge q i with h1 | h1
 · have := ltH_iff.1 (hlo q y h1 hq); omega
 · rcases Nat.lt_or_ge i q with h2 | h2
   · obtain ⟨z, hz⟩ : ∃ z, H[i]? = some z := ⟨H[i]'(by have := (List.getElem?_eq_some_iff.1 hq).1; omega), List.getElem?_eq_getElem _⟩
     have h3 := hA i q z y h2 hz hq
     have h4 := hhi i z (Nat.le_refl _) hz
     have : ¬ z.h < x := fun h => by rw [ltH_iff.2 h] at h4; cases h4
     omega
   · have : q = i := by omega
     subst this; exact h y hq e
/-! ### houses ascend -/
theorem hou_mem : ∀ (f : Nat) (l : List NM) (x : HM), x ∈ housesF f l → ∃ m ∈ l, x.h = m.h
 | 0, l, x, h => by unfold housesF at h; cases h
 | f + 1, [], x, h => by unfold housesF at h; cases h
 | f + 1, a :: r, x, h => by
  unfold housesF at h
  rcases List.mem_cons.1 h with e | e
  · exact ⟨a, List.mem_cons_self, by rw [e]⟩
  · obtain ⟨m, h1, h2⟩ := hou_mem f _ x e
    exact ⟨m, List.mem_of_mem_drop h1, h2⟩
theorem drop_gt {a : NM} {r : List NM} (h : (a :: r).Pairwise fun x y => x.h ≤ y.h) : ∀ m ∈ (a :: r).drop (runLen (a :: r)), a.h < m.h := by
 have e : (a :: r).drop (runLen (a :: r)) = r.dropWhile fun x => decide (x.h = a.h) := by
  show (a :: r).drop (1 + (r.takeWhile fun x => decide (x.h = a.h)).length) = _
  rw [Nat.add_comm, List.drop_succ_cons]
  clear h
  generalize (fun x : NM => decide (x.h = a.h)) = p
  induction r with
  | nil => rfl
  | cons b r ih =>
   by_cases hp : p b = true
   · rw [List.takeWhile_cons_of_pos hp, List.dropWhile_cons_of_pos hp]; exact ih
   · rw [List.takeWhile_cons_of_neg hp, List.dropWhile_cons_of_neg hp]; rfl
 rw [e]
 obtain ⟨h1, h2⟩ := List.pairwise_cons.1 h
 intro m hm
 clear e h
 induction r with
 | nil => cases hm
 | cons b r ih =>
  obtain ⟨h3, h4⟩ := List.pairwise_cons.1 h2
  by_cases hp : b.h = a.h
  · rw [List.dropWhile_cons_of_pos (by simpa using hp)] at hm
    exact ih (fun x hx => h1 x (List.mem_cons_of_mem _ hx)) h4 hm
  · rw [List.dropWhile_cons_of_neg (by simpa using hp)] at hm
    have := h1 b List.mem_cons_self
    rcases List.mem_cons.1 hm with e | e
    · subst e; omega
    · have := h3 m e; omega
theorem hou_asc : ∀ (f : Nat) (l : List NM), (l.Pairwise fun x y => x.h ≤ y.h) → (housesF f l).Pairwise fun x y => x.h < y.h
 | 0, l, _ => by unfold housesF; exact List.Pairwise.nil
 | f + 1, [], _ => by unfold housesF; exact List.Pairwise.nil
 | f + 1, a :: r, h => by
  unfold housesF
  refine List.pairwise_cons.2 ⟨fun x hx => ?_, hou_asc f _ (h.drop)⟩
  obtain ⟨m, h1, h2⟩ := hou_mem f _ x hx
  have := drop_gt h m h1
  show a.h < x.h
  omega
theorem join_up (l : List NM) : (joinN l).Pairwise fun x y => x.h ≤ y.h := by
 refine List.Pairwise.imp ?_ (join_sorted l)
 intro a b h
 rcases cmpN_lt.1 h with h | h <;> omega
theorem hou_up (l : List NM) : (houN (joinN l)).Pairwise fun x y => x.h < y.h := hou_asc _ _ (join_up l)
theorem asc_of {H : List HR} {l : List NM} (h : (H.map hm).map (·.h) = (houN (joinN l)).map (·.h)) : AscH H := by
 have h2 : (H.map hm).map (·.h) |>.Pairwise (· < ·) := by rw [h, List.pairwise_map]; exact hou_up l
 rw [List.pairwise_map, List.pairwise_map, List.pairwise_iff_getElem] at h2
 intro i j x y hij hx hy
 obtain ⟨a1, a2⟩ := List.getElem?_eq_some_iff.1 hx
 obtain ⟨b1, b2⟩ := List.getElem?_eq_some_iff.1 hy
 have := h2 i j a1 b1 hij
 rw [a2, b2] at this
 exact this
theorem ci_self (x : Int) : Lib.compareInt x x = 0 := by rcases ci_cases x x with ⟨h, _⟩ | ⟨h, _⟩ | ⟨_, h⟩ <;> first | omega | exact h
theorem ci_ne {x y : Int} (h : x ≠ y) : ¬ Lib.compareInt x y = 0 := by rcases ci_cases x y with ⟨_, h2⟩ | ⟨_, h2⟩ | ⟨h1, _⟩ <;> omega
theorem find1_v (w : World) (h x t : Int) (A : Option Addr) (n c : Nat) (b : Bool) : Calls Tryz.prog 61 [.agg #[.int .i64 h, .slice A n c, .bool b, .int .i64 t], .int .i64 x].toArray w (Fix (.int .i64 (Lib.compareInt h x)) w) := by
 refine calls_start Tryz.func61 rfl rfl ?_
 intro az Z
 rw [Tryz.ntmps61] at Z
 refine wp_seq_k fun _ k1 => wp_region_lit ?_
 refine LBox Z rfl rfl rfl ?_
 clear Z az; intro g2 w3 hg6 hl7 o4 B5 az Z
 refine L (r_as Z rfl) Z rfl ?_; clear Z az; intro az Z
 refine k1 _ _ (wp_seq_k fun _ k8 => wp_region_lit ?_)
 refine L (r_fa (m' := 0) Tryz.underlying69 rfl Tryz.sizeOf3 rfl Z rfl rfl) Z rfl ?_; clear Z az; intro az Z
 refine L (r_ld Tryz.isAgg3 Z rfl ((Blk.ca B5) 0 _ rfl)) Z rfl ?_; clear Z az; intro az Z
 refine L (r_mv Z rfl) Z rfl ?_; clear Z az; intro az Z
 refine LCV (v := .int .i64 ((Lib.compareInt h x))) Z rfl rfl Tryz.call62 (CmpInt_v _ h x) rfl fun w9 o10 => ?_; clear Z az; intro az Z
 refine L (r_as Z rfl) Z rfl ?_; clear Z az; intro az Z
 refine k8 _ _ ?_
 refine wp_ret ?_
 show bodyPost _ _ _ .ret _ _
 refine ret_of (vs := [.int .i64 ((Lib.compareInt h x))]) Z Tryz.results61 ⟨rfl, trivial⟩ ?_
 have O11 : Only NoF w w9 := (Only.trans' o4 o10)
 exact ⟨rfl, O11⟩
theorem bsh_v {w : World} {H : List HR} {A : Option Addr} {c : Nat} (f1 : SliceOf AllB 4 KH0.R w (.slice A H.length c) H) (x : Int) (hA : AscH H) (hl : H.length ≤ 1000000) : Calls Tryz.prog 60 [.slice A H.length c, .int .i64 x, .func (.func 61) #[] #[]].toArray w (BsrTo x H w) := by
 refine calls_start Tryz.func60 rfl rfl ?_
 intro az Z
 rw [Tryz.ntmps60] at Z
 refine wp_seq_k fun _ k1 => wp_region_lit ?_
 refine L (r_as Z rfl) Z rfl ?_; clear Z az; intro az Z
 refine L (r_as Z rfl) Z rfl ?_; clear Z az; intro az Z
 refine k1 _ _ (wp_seq_k fun _ k2 => wp_region_lit ?_)
 refine L (r_mv Z rfl) Z rfl ?_; clear Z az; intro az Z
 refine L (r_lenL Tryz.underlying66 Z rfl) Z rfl ?_; clear Z az; intro az Z
 refine L (r_as Z rfl) Z rfl ?_; clear Z az; intro az Z
 refine k2 _ _ (wp_seq_k fun _ k3 => wp_region_lit ?_)
 refine L (r_mv Z rfl) Z rfl ?_; clear Z az; intro az Z
 refine L (r_as Z rfl) Z rfl ?_; clear Z az; intro az Z
 refine L (r_as Z rfl) Z rfl ?_; clear Z az; intro az Z
 refine k3 _ _ (wp_seq_k fun _ k4 => ?_)
 refine wp_block ?_
 refine wp_loop_m (fun mz az W => ∃ i : Nat, ∃ j : Nat, mz = j - i ∧ Fr 49 [(0, .slice A (H.length) c), (1, .int .i64 (x)), (2, .func (.func 61) #[] #[]), (8, .int .i64 (((H.length : Nat) : Int))), (9, .int .i64 ((i : Int))), (10, .int .i64 ((j : Int)))] az ∧ (i ≤ j ∧ j ≤ H.length) ∧ (∀ (q : Nat) (y : HR), q < i → H[q]? = some y → ltH x y = true) ∧ (∀ (q : Nat) (y : HR), j ≤ q → H[q]? = some y → ltH x y = false) ∧ Only NoF w W) ?_ ?_
 ·
  exact ⟨_, 0, H.length, rfl, Z.cut ⟨rfl, rfl, rfl, rfl, rfl, rfl, trivial⟩, ⟨Nat.zero_le _, Nat.le_refl _⟩, (fun q y h => absurd h (Nat.not_lt_zero _)), (fun q y h1 h2 => absurd (List.getElem?_eq_some_iff.1 h2).1 (by omega)), (Only.refl NoF w)⟩
 clear Z az
 rintro mz az w5 ⟨i, j, hm7, Z, hij, hlo, hhi, o6⟩
 refine wp_seq_k fun _ k8 => ?_
 refine wp_seq_k fun _ k9 => wp_region_lit ?_
 refine L (r_mv Z rfl) Z rfl ?_; clear Z az; intro az Z
 refine L (r_mv Z rfl) Z rfl ?_; clear Z az; intro az Z
 refine L (r_ltI Z rfl rfl) Z rfl ?_; clear Z az; intro az Z
 refine k9 _ _ ?_
 refine br Z rfl (fun hc10 => ?_) (fun hc10 => ?_)
 ·
  have p11 := of_decide_eq_true hc10
  refine wp_skip ?_
  refine k8 _ _ ?_
  refine wp_block ?_
  refine wp_seq_k fun _ k12 => wp_region_lit ?_
  refine L (r_mv Z rfl) Z rfl ?_; clear Z az; intro az Z
  refine L (r_mv Z rfl) Z rfl ?_; clear Z az; intro az Z
  have i13 : I64 (((i : Int) + (j : Int))) := by unfold I64; omega
  refine L (r_addI (r := ((i : Int) + (j : Int))) Z rfl rfl rfl i13) Z rfl ?_; clear Z az; intro az Z
  refine L (r_cvU Tryz.underlying3 Tryz.underlying130 Z rfl (by omega)) Z rfl ?_; clear Z az; intro az Z
  refine L (r_shr1 (r := (((i + j) / 2 : Nat) : Int)) Z rfl rfl (by omega)) Z rfl ?_; clear Z az; intro az Z
  refine L (r_cvS Tryz.underlying130 Tryz.underlying3 Z rfl (by omega)) Z rfl ?_; clear Z az; intro az Z
  refine L (r_as Z rfl) Z rfl ?_; clear Z az; intro az Z
  refine k12 _ _ (wp_seq_k fun _ k14 => wp_region_lit ?_)
  refine L (r_mv Z rfl) Z rfl ?_; clear Z az; intro az Z
  refine L (r_mv Z rfl) Z rfl ?_; clear Z az; intro az Z
  refine L (r_mv Z rfl) Z rfl ?_; clear Z az; intro az Z
  have hk15 : ((i + j) / 2) < (H).length := by omega
  have h21 := (SliceOf.kp f1 o6 (fun _ _ h => h) (fun _ _ _ _ h => h))
  obtain ⟨m16, hm17, ok18, hA19⟩ := Row.el KH0 h21 hk15
  have E20 : ∀ W, Only NoF w5 W → CA W (eA A 4 (((i + j) / 2))) [.int .i64 (m16.h), .slice m16.A (m16.p.length) m16.c, .bool (m16.f), .int .i64 ((m16.t : Int))] := Row.ce KH0 h21 hm17 rfl
  refine L (r_ia (k := ((i + j) / 2)) (size := 4) Tryz.underlying66 Tryz.sizeOf69 Z rfl rfl rfl hk15 hA19) Z rfl ?_; clear Z az; intro az Z
  refine L (r_ldA Tryz.isAgg69 Tryz.sizeOf69 Z rfl (E20 _ (Only.refl NoF w5)) rfl) Z rfl ?_; clear Z az; intro az Z
  refine L (r_mv Z rfl) Z rfl ?_; clear Z az; intro az Z
  refine LCV (v := .int .i64 ((Lib.compareInt m16.h x))) Z rfl rfl Tryz.call61 (find1_v _ m16.h x (m16.t : Int) _ _ _ _) rfl fun w22 o23 => ?_; clear Z az; intro az Z
  refine L (r_ltI Z rfl rfl) Z rfl ?_; clear Z az; intro az Z
  refine k14 _ _ ?_
  refine br Z rfl (fun hc24 => ?_) (fun hc24 => ?_)
  ·
   have p25 := of_decide_eq_true hc24
   refine wp_region_lit ?_
   refine L (r_mv Z rfl) Z rfl ?_; clear Z az; intro az Z
   have i26 : I64 (((((i + j) / 2 : Nat) : Int) + 1)) := by unfold I64; omega
   refine L (r_addI (r := ((((i + j) / 2 : Nat) : Int) + 1)) Z rfl rfl rfl i26) Z rfl ?_; clear Z az; intro az Z
   refine L (r_as Z rfl) Z rfl ?_; clear Z az; intro az Z
   have O27 : Only NoF w w22 := (Only.trans' o6 o23)
   exact ⟨_, (by omega), (i + j) / 2 + 1, j, rfl, Z.cut ⟨rfl, rfl, rfl, rfl, rfl, rfl, trivial⟩, (by omega), (lo_up (pre_of hA) hm17 hc24), hhi, O27⟩
  ·
   have p28 := of_decide_eq_false hc24
   refine wp_region_lit ?_
   refine L (r_mv Z rfl) Z rfl ?_; clear Z az; intro az Z
   refine L (r_as Z rfl) Z rfl ?_; clear Z az; intro az Z
   have O29 : Only NoF w w22 := (Only.trans' o6 o23)
   exact ⟨_, (by omega), i, (i + j) / 2, rfl, Z.cut ⟨rfl, rfl, rfl, rfl, rfl, rfl, trivial⟩, (by omega), hlo, (lo_dn (pre_of hA) hm17 hc24), O29⟩
 ·
  have p30 := of_decide_eq_false hc10
  have hje : j = i := by omega
  rw [hje] at hhi
  refine wp_exit ?_
  refine th_exit ?_
  refine th_exit ?_
  refine ib_hit ?_
  refine k4 _ _ (wp_seq_k fun _ k31 => ?_)
  rcases Nat.lt_or_ge i H.length with hi | hi
  ·
   refine wp_region_lit ?_
   refine L (r_mv Z rfl) Z rfl ?_; clear Z az; intro az Z
   refine L (r_mv Z rfl) Z rfl ?_; clear Z az; intro az Z
   refine L (r_mv Z rfl) Z rfl ?_; clear Z az; intro az Z
   refine L (r_ltL (b := true) Z rfl rfl (decide_eq_true (by omega))) Z rfl ?_; clear Z az; intro az Z
   refine L (r_mv Z rfl) Z rfl ?_; clear Z az; intro az Z
   refine LT Z rfl rfl (r_mv Z rfl) rfl ?_; clear Z az; intro az Z
   refine LT Z rfl rfl (r_mv Z rfl) rfl ?_; clear Z az; intro az Z
   refine LT Z rfl rfl (r_mv Z rfl) rfl ?_; clear Z az; intro az Z
   have hk32 : i < (H).length := by omega
   have h38 := (SliceOf.kp f1 o6 (fun _ _ h => h) (fun _ _ _ _ h => h))
   obtain ⟨m33, hm34, ok35, hA36⟩ := Row.el KH0 h38 hk32
   have E37 : ∀ W, Only NoF w5 W → CA W (eA A 4 (i)) [.int .i64 (m33.h), .slice m33.A (m33.p.length) m33.c, .bool (m33.f), .int .i64 ((m33.t : Int))] := Row.ce KH0 h38 hm34 rfl
   refine LT Z rfl rfl (r_ia (k := i) (size := 4) Tryz.underlying66 Tryz.sizeOf69 Z rfl rfl rfl hk32 hA36) rfl ?_; clear Z az; intro az Z
   refine LT Z rfl rfl (r_ldA Tryz.isAgg69 Tryz.sizeOf69 Z rfl (E37 _ (Only.refl NoF w5)) rfl) rfl ?_; clear Z az; intro az Z
   refine LT Z rfl rfl (r_mv Z rfl) rfl ?_; clear Z az; intro az Z
   refine LGV (v := .int .i64 ((Lib.compareInt m33.h x))) Z rfl rfl gd_t rfl (fun hb => rfl) Tryz.call61 (fun hb => find1_v _ m33.h x (m33.t : Int) _ _ _ _) rfl fun w39 o40 => ?_; clear Z az; intro az Z
   refine LT Z rfl rfl (r_eqI Z rfl rfl) rfl ?_; clear Z az; intro az Z
   refine L (r_pick Z rfl rfl rfl) Z rfl ?_; clear Z az; intro az Z
   refine L (r_as Z rfl) Z rfl ?_; clear Z az; intro az Z
   refine L (r_as Z rfl) Z rfl ?_; clear Z az; intro az Z
   refine k31 _ _ ?_
   refine wp_ret ?_
   show bodyPost _ _ _ .ret _ _
   refine ret_of (vs := [.int .i64 ((i : Int)), .bool (decide ((Lib.compareInt m33.h x) = 0))]) Z Tryz.results60 ⟨rfl, rfl, trivial⟩ ?_
   have O41 : Only NoF w w39 := (Only.trans' o6 o40)
   by_cases hx : m33.h = x
   · exact ⟨i, some m33, by rw [hx, ci_self]; rfl, find_at hA hm34 hx, (fun y h => by injection h with h; rw [← h]; exact hm34), O41⟩
   · exact ⟨i, none, by rw [decide_eq_false (ci_ne hx)]; rfl, bs_no hlo hhi hA (fun y h => by rw [hm34] at h; injection h with h; rw [← h]; exact hx), (fun y h => nomatch h), O41⟩
  ·
   refine wp_region_lit ?_
   refine L (r_mv Z rfl) Z rfl ?_; clear Z az; intro az Z
   refine L (r_mv Z rfl) Z rfl ?_; clear Z az; intro az Z
   refine L (r_mv Z rfl) Z rfl ?_; clear Z az; intro az Z
   refine L (r_ltL (b := false) Z rfl rfl (decide_eq_false (by omega))) Z rfl ?_; clear Z az; intro az Z
   refine L (r_mv Z rfl) Z rfl ?_; clear Z az; intro az Z
   refine LF Z rfl rfl rfl rfl ?_; clear Z az; intro az Z
   refine LF Z rfl rfl rfl rfl ?_; clear Z az; intro az Z
   refine LF Z rfl rfl rfl rfl ?_; clear Z az; intro az Z
   refine LF Z rfl rfl rfl rfl ?_; clear Z az; intro az Z
   refine LF Z rfl rfl rfl rfl ?_; clear Z az; intro az Z
   refine LF Z rfl rfl rfl rfl ?_; clear Z az; intro az Z
   refine LF Z rfl rfl rfl rfl ?_; clear Z az; intro az Z
   refine LF Z rfl rfl rfl rfl ?_; clear Z az; intro az Z
   refine L (r_pick Z rfl rfl rfl) Z rfl ?_; clear Z az; intro az Z
   refine L (r_as Z rfl) Z rfl ?_; clear Z az; intro az Z
   refine L (r_as Z rfl) Z rfl ?_; clear Z az; intro az Z
   refine k31 _ _ ?_
   refine wp_ret ?_
   show bodyPost _ _ _ .ret _ _
   refine ret_of (vs := [.int .i64 ((i : Int)), .bool (false)]) Z Tryz.results60 ⟨rfl, rfl, trivial⟩ ?_
   exact ⟨i, none, rfl, bs_no hlo hhi hA (fun y h => absurd (List.getElem?_eq_some_iff.1 h).1 (by omega)), (fun y h => nomatch h), o6⟩
theorem find_v {w : World} {H : List HR} {A : Option Addr} {c : Nat} (f1 : SliceOf AllB 4 KH0.R w (.slice A H.length c) H) (x : Int) (hA : AscH H) (hl : H.length ≤ 1000000) : Calls Tryz.prog 39 [.slice A H.length c, .int .i64 x].toArray w (BsrTo x H w) := by
 refine calls_start Tryz.func39 rfl rfl ?_
 intro az Z
 rw [Tryz.ntmps39] at Z
 refine wp_seq_k fun _ k1 => wp_region_lit ?_
 refine L (r_as Z rfl) Z rfl ?_; clear Z az; intro az Z
 refine L (r_as Z rfl) Z rfl ?_; clear Z az; intro az Z
 refine k1 _ _ (wp_seq_k fun _ k2 => wp_region_lit ?_)
 refine L (r_mv Z rfl) Z rfl ?_; clear Z az; intro az Z
 refine L (r_mv Z rfl) Z rfl ?_; clear Z az; intro az Z
 refine LC Z rfl rfl Tryz.call60 (bsh_v f1 x hA hl) rfl ?_
 rintro e w3 ⟨i4, o5, rfl, hf6, hs7, o8⟩; refine ⟨_, rfl, ?_⟩
 clear Z az; intro az Z
 refine L (r_ex Z rfl rfl) Z rfl ?_; clear Z az; intro az Z
 refine L (r_ex Z rfl rfl) Z rfl ?_; clear Z az; intro az Z
 refine L (r_as Z rfl) Z rfl ?_; clear Z az; intro az Z
 refine L (r_as Z rfl) Z rfl ?_; clear Z az; intro az Z
 refine k2 _ _ ?_
 refine wp_ret ?_
 show bodyPost _ _ _ .ret _ _
 refine ret_of (vs := [.int .i64 ((i4 : Int)), .bool (o5.isSome)]) Z Tryz.results39 ⟨rfl, rfl, trivial⟩ ?_
 exact ⟨i4, o5, rfl, hf6, hs7, o8⟩
end
section
open Go.RowKit
theorem hf_len : ∀ (f : Nat) (l : List NM), (housesF f l).length ≤ f
 | 0, _ => Nat.le_refl _
 | f + 1, [] => Nat.zero_le _
 | f + 1, a :: r => Nat.succ_le_succ (hf_len f _)
theorem hou_len (J : List NM) : (houN J).length ≤ J.length := hf_len _ _
theorem joinN_le (l : List NM) : (joinN l).length ≤ l.length := by
 have h2 := fold_len (l.filter right) []
 have h3 := List.length_filter_le right l
 unfold joinN
 simp only [List.length_nil] at h2
 omega
def forksN (J : List NM) : List Int := ((houN J).filter (·.f)).map (·.h)
def pastOfN (J : List NM) (x : Int) : List NM := match (houN J).find? (fun y => decide (y.h = x)) with
 | some y => y.p
 | none => []
/-- a need is met -/
def okR (hs : List HM) (r : RM) : Bool := match hs.find? (fun y => decide (y.h = r.h)) with
 | none => false
 | some y => !(decide ((y.t : Int) ≤ r.n) && !(y.f && decide (((y.p.length : Nat) : Int) ≤ r.n)))
def readyN (hs : List HM) (m : NM) : Bool := m.l.all (okR hs)
/-- a row of numbers that comes back -/
def IOut (N : List Int) (w : World) (e : Ending) (w' : World) : Prop := ∃ A c, e = .returned (.slice A N.length c) ∧ w'.ownsRow w.heap.size 3 1 (.slice A N.length c) N.length (N.flatMap KInt.cells) ∧ Only NoF w w'
section
variable {H : List HR} {k : Nat} {m y : HR} {i : Nat} {r : RM} {x : Int}
def forkH (H : List HR) : List Int := (H.filter (·.f)).map (·.h)
theorem fo_yes (hm : H[k]? = some m) (e : m.f = true) : forkH (H.take (k + 1)) = forkH (H.take k) ++ [m.h] := by
 unfold forkH
 rw [take_succ_get hm, List.filter_append, List.map_append]
 simp [e]
theorem fo_no (hm : H[k]? = some m) (e : m.f = false) : forkH (H.take (k + 1)) = forkH (H.take k) := by
 unfold forkH
 rw [take_succ_get hm, List.filter_append, List.map_append]
 simp [e]
theorem fo_all {J : List NM} (h : H.map hm = houN J) : forkH H = forksN J := by
 unfold forkH forksN
 rw [← h, List.filter_map, List.map_map]
 rfl
theorem hou_ok {l : List NM} (h : H.map hm = houN (joinN l)) (hy : y ∈ H) : KInt.ok y.h := by
 obtain ⟨m, h1, h2⟩ := hou_mem _ _ (hm y) (by unfold houN at h; rw [← h]; exact List.mem_map_of_mem hy)
 have h3 := (join_good l m h1).1
 have h4 : y.h = m.h := h2
 have h5 := (right_ok h3).1.1
 show KInt.ok y.h
 rw [h4]
 unfold Wr.Ok at h5; show I64 m.h; unfold I64; omega
theorem fo_ok {l : List NM} (h : H.map hm = houN (joinN l)) (hx : x ∈ forkH (H.take k)) : KInt.ok x := by
 obtain ⟨y, hy, rfl⟩ := List.mem_map.1 hx
 exact hou_ok h (List.mem_of_mem_take (List.mem_filter.1 hy).1)
theorem fo_ok2 {l : List NM} {O : List Int} (h : H.map hm = houN (joinN l)) (hO : O = forkH (H.take k)) : ∀ x ∈ O, KInt.ok x := fun x hx => fo_ok h (by rw [← hO]; exact hx)
theorem fo_len : (forkH H).length ≤ H.length := by unfold forkH; rw [List.length_map]; exact List.length_filter_le _ _
theorem find_hm : (H.map hm).find? (fun y => decide (y.h = x)) = (H.find? (fun y => decide (y.h = x))).map hm := by
 rw [List.find?_map]; rfl
theorem okR_some (hf : H.find? (fun y => decide (y.h = r.h)) = some y) (hy : H[i]? = some y) (hm' : H[i]? = some m) : okR (H.map hm) r = !(decide ((m.t : Int) ≤ r.n) && !(m.f && decide (((m.p.length : Nat) : Int) ≤ r.n))) := by
 have : y = m := by rw [hy] at hm'; injection hm'
 subst this
 unfold okR
 rw [find_hm, hf]
 show (!(decide ((y.t : Int) ≤ r.n) && !(y.f && decide ((((y.p.map ns).length : Nat) : Int) ≤ r.n)))) = _
 rw [List.length_map]
theorem okR_none (hf : H.find? (fun y => decide (y.h = r.h)) = none) : okR (H.map hm) r = false := by
 unfold okR
 rw [find_hm, hf]; rfl
theorem rdy_all {l : List RM} {hs : List HM} (h : ∀ r ∈ l, okR hs r = true) : l.all (okR hs) = true := List.all_eq_true.2 h
theorem rdy_bad {l : List RM} {hs : List HM} {r : RM} (hr : l[k]? = some r) (h : okR hs r = false) : l.all (okR hs) = false := by
 rw [List.all_eq_false]
 exact ⟨r, List.mem_of_getElem? hr, by rw [h]; decide⟩
theorem rdy_step {l : List RM} {hs : List HM} {r : RM} (hr : l[k]? = some r) (h : ∀ r ∈ l.take k, okR hs r = true) (h2 : okR hs r = true) : ∀ r ∈ l.take (k + 1), okR hs r = true := by
 rw [take_succ_get hr]
 intro q hq
 rcases List.mem_append.1 hq with e | e
 · exact h q e
 · rw [List.mem_singleton.1 e]; exact h2
theorem past_at {J : List NM} (h : H.map hm = houN J) (hf : H.find? (fun y => decide (y.h = x)) = some y) : pastOfN J x = y.p.map ns := by
 unfold pastOfN
 rw [← h, find_hm, hf]; rfl
theorem past_none {J : List NM} (h : H.map hm = houN J) (hf : H.find? (fun y => decide (y.h = x)) = none) : pastOfN J x = [] := by
 unfold pastOfN
 rw [← h, find_hm, hf]; rfl
end
theorem Forks_v_ {w : World} (hG : Gr w) {l : List NM} {A : Option Addr} {c : Nat} (t : NtV w (.slice A l.length c) l) (hl : l.length ≤ 1000000) : Calls Tryz.prog 13 [.slice A l.length c].toArray w (IOut (forksN (joinN l)) w) := by
 refine calls_start Tryz.func13 rfl rfl ?_
 intro az Z
 rw [Tryz.ntmps13] at Z
 refine wp_seq_k fun _ k1 => wp_region_lit ?_
 refine L (r_as Z rfl) Z rfl ?_; clear Z az; intro az Z
 refine k1 _ _ (wp_seq_k fun _ k2 => wp_region_lit ?_)
 refine L (r_as Z rfl) Z rfl ?_; clear Z az; intro az Z
 refine k2 _ _ (wp_seq_k fun _ k3 => ?_)
 refine wp_seq_k fun _ k4 => wp_region_lit ?_
 refine L (r_mv Z rfl) Z rfl ?_; clear Z az; intro az Z
 have G14 := Gr.k hG (Only.refl NoF w)
 refine LC Z rfl rfl Tryz.call36 (houses_v_ G14 t hl) rfl ?_
 rintro e w5 ⟨A7, c8, H9, rfl, hH10, r11, hO12, o6⟩; refine ⟨_, rfl, ?_⟩
 have hr13 := SliceOf.pl (Row.own KH0 r11 (fun _ _ => trivial))
 have hA := asc_of (l := l) (by rw [hH10])
 have hHl : H9.length ≤ 1000000 := by have h1 := congrArg List.length hH10; rw [List.length_map] at h1; rw [h1]; exact Nat.le_trans (hou_len _) (Nat.le_trans (joinN_le l) hl)
 clear Z az; intro az Z
 refine L (r_lenL Tryz.underlying66 Z rfl) Z rfl ?_; clear Z az; intro az Z
 refine L (r_mv Z rfl) Z rfl ?_; clear Z az; intro az Z
 refine k4 _ _ ?_
 refine wp_block ?_
 refine wp_loop_m (fun mz az W => ∃ k : Nat, ∃ O : List Int, ∃ Ao : Option Addr, ∃ co : Nat, mz = H9.length - k ∧ Fr 22 [(7, .slice A7 (H9.length) c8), (8, .int .i64 (((H9.length : Nat) : Int))), (9, .int .i64 ((k : Int))), (3, .slice Ao (O.length) co)] az ∧ (k ≤ H9.length) ∧ (O = forkH (H9.take k)) ∧ Only NoF w5 W ∧ W.ownsRow w5.heap.size 3 1 (.slice Ao O.length co) O.length (List.flatMap KInt.cells O)) ?_ ?_
 ·
  exact ⟨_, 0, [], none, 0, rfl, Z.cut ⟨rfl, rfl, rfl, rfl, trivial⟩, Nat.zero_le _, rfl, (Only.refl NoF w5), (World.ownsRow_nil _ _ _ _)⟩
 clear Z az
 rintro mz az w15 ⟨k, O, Ao, co, hm17, Z, hk, hO, o16, rO⟩
 have hOl : O.length ≤ H9.length := by rw [hO]; exact Nat.le_trans fo_len (by rw [List.length_take]; omega)
 refine wp_seq_k fun _ k18 => wp_region_lit ?_
 refine L (r_ltI Z rfl rfl) Z rfl ?_; clear Z az; intro az Z
 refine k18 _ _ (wp_seq_k fun _ k19 => ?_)
 refine br Z rfl (fun hc20 => ?_) (fun hc20 => ?_)
 ·
  have p21 := of_decide_eq_true hc20
  refine wp_skip ?_
  refine k19 _ _ (wp_seq_k fun _ k22 => ?_)
  refine wp_block ?_
  refine wp_seq_k fun _ k23 => wp_region_lit ?_
  have hk24 : k < (H9).length := by omega
  have h30 := (SliceOf.kp hr13 o16 (fun _ _ h => h) (fun _ _ _ _ h => h))
  obtain ⟨m25, hm26, ok27, hA28⟩ := Row.el KH0 h30 hk24
  have E29 : ∀ W, Only NoF w15 W → CA W (eA A7 4 (k)) [.int .i64 (m25.h), .slice m25.A (m25.p.length) m25.c, .bool (m25.f), .int .i64 ((m25.t : Int))] := Row.ce KH0 h30 hm26 rfl
  refine L (r_ia (k := k) (size := 4) Tryz.underlying66 Tryz.sizeOf69 Z rfl rfl rfl hk24 hA28) Z rfl ?_; clear Z az; intro az Z
  refine L (r_ldA Tryz.isAgg69 Tryz.sizeOf69 Z rfl (E29 _ (Only.refl NoF w15)) rfl) Z rfl ?_; clear Z az; intro az Z
  refine LAl (v := .agg #[.int .i64 (0), .slice none (0) 0, .bool (false), .int .i64 (0)]) Tryz.zeroValue69 Z rfl rfl ?_
  clear Z az; intro g31 w32 hg35 hl36 o33 B34 az Z
  refine LSt (cs' := [.int .i64 (m25.h), .slice m25.A (m25.p.length) m25.c, .bool (m25.f), .int .i64 ((m25.t : Int))]) Tryz.sizeOf69 Z rfl rfl rfl rfl rfl ⟨rfl, rfl, rfl, rfl, trivial⟩ B34 rfl rfl fun w37 s38 B39 => ?_
  refine k23 _ _ (wp_seq_k fun _ k40 => wp_region_lit ?_)
  refine L (r_fa (m' := 2) Tryz.underlying69 rfl Tryz.sizeOf4 rfl Z rfl rfl) Z rfl ?_; clear Z az; intro az Z
  refine L (r_ld Tryz.isAgg4 Z rfl ((Blk.ca B39) 2 _ rfl)) Z rfl ?_; clear Z az; intro az Z
  refine k40 _ _ ?_
  refine br Z rfl (fun hc41 => ?_) (fun hc41 => ?_)
  ·
   have q42 : m25.f = true := hc41
   refine wp_region_lit ?_
   refine L (r_mv Z rfl) Z rfl ?_; clear Z az; intro az Z
   refine L (r_fa (m' := 0) Tryz.underlying69 rfl Tryz.sizeOf3 rfl Z rfl rfl) Z rfl ?_; clear Z az; intro az Z
   refine L (r_ld Tryz.isAgg3 Z rfl ((Blk.ca B39) 0 _ rfl)) Z rfl ?_; clear Z az; intro az Z
   obtain ⟨A43, w44, hw, hA, r45, o46⟩ := Row.made (w := w37) KInt (e := 3) ([m25.h] : List Int) (by simp only [List.length_cons, List.length_nil]; unfold maxLen; omega)
   refine L (r_bs (z := .int .i64 (0)) (size := 1) (vs := [(0, .int .i64 (m25.h))]) (cs := List.flatMap KInt.cells [m25.h]) Tryz.underlying30 Tryz.sizeOf3 Tryz.zeroValue3 rfl (Fr.evalps Z rfl) (by kernel_rfl)) Z rfl ?_
   rw [← hw, ← hA]; clear Z az; intro az Z
   clear hw hA
   have ok47 : ∀ zq ∈ ([m25.h] : List Int), KInt.ok zq := by intro zq hx; simp only [List.mem_cons, List.not_mem_nil, or_false] at hx; rcases hx with rfl <;> first | exact (hou_ok hH10 (List.mem_of_getElem? hm26))
   have r48 := (ow_k (ow_only (ow_k rO o33) s38 (fun k hk => lt_F (oneF_ge hg35) (Nat.le_refl _) k (ownF_lt rO k hk))) o46)
   have h49 := SliceOf.pl (Row.own KInt r45 ok47)
   have hb57 : (List.length (O) + List.length ([m25.h])) * 8 ≤ 140737488355328 := by (simp only [List.length_append, List.length_cons, List.length_nil]; omega)
   have O58 : Only NoF w5 w44 := (Only.trans' (o_sg (Only.trans' o16 o33) s38 (size_only o16) (oneF_ge hg35)) o46)
   obtain ⟨A50, c51, w52, hr53, r54, o55, al56⟩ := Row.app (P := Tryz.prog) (l := O) (l2 := [m25.h]) KInt elemInt r48 h49 hb57 (by unfold maxLen; omega) (size_only O58)
   refine L (r_app hr53 Z rfl rfl) Z rfl ?_; clear Z az; intro az Z
   have ok59 : ∀ zq ∈ (O ++ [m25.h]), KInt.ok zq := (fun x hx => (List.mem_append.1 hx).elim ((fo_ok2 hH10 hO) x) ((Row.oks KInt h49) x))
   have h60 := Row.own KInt r54 ok59
   refine L (r_as Z rfl) Z rfl ?_; clear Z az; intro az Z
   refine k22 _ _ ?_
   refine wp_region_lit ?_
   have i61 : I64 (((k : Int) + 1)) := by unfold I64; omega
   refine L (r_addI (r := ((k : Int) + 1)) Z rfl rfl rfl i61) Z rfl ?_; clear Z az; intro az Z
   refine L (r_mv Z rfl) Z rfl ?_; clear Z az; intro az Z
   have O62 : Only NoF w5 w52 := (o_sg O58 o55 (Nat.le_refl _) (ownF_ge rO))
   exact ⟨_, (by omega), k + 1, _, A50, c51, rfl, Z.cut ⟨rfl, rfl, rfl, rfl, trivial⟩, (by omega), (by rw [hO, fo_yes hm26 hc41]), O62, r54⟩
  ·
   have q63 : m25.f = false := hc41
   refine wp_skip ?_
   refine k22 _ _ ?_
   refine wp_region_lit ?_
   have i64 : I64 (((k : Int) + 1)) := by unfold I64; omega
   refine L (r_addI (r := ((k : Int) + 1)) Z rfl rfl rfl i64) Z rfl ?_; clear Z az; intro az Z
   refine L (r_mv Z rfl) Z rfl ?_; clear Z az; intro az Z
   have O65 : Only NoF w5 w37 := (o_sg (Only.trans' o16 o33) s38 (size_only o16) (oneF_ge hg35))
   have r66 := (ow_only (ow_k rO o33) s38 (fun k hk => lt_F (oneF_ge hg35) (Nat.le_refl _) k (ownF_lt rO k hk)))
   exact ⟨_, (by omega), k + 1, O, Ao, co, rfl, Z.cut ⟨rfl, rfl, rfl, rfl, trivial⟩, (by omega), (by rw [hO, fo_no hm26 hc41]), O65, r66⟩
 ·
  have p67 := of_decide_eq_false hc20
  refine wp_exit ?_
  refine th_exit ?_
  refine th_exit ?_
  refine ib_hit ?_
  refine k3 _ _ (wp_seq_k fun _ k68 => wp_region_lit ?_)
  refine L (r_mv Z rfl) Z rfl ?_; clear Z az; intro az Z
  refine L (r_as Z rfl) Z rfl ?_; clear Z az; intro az Z
  refine k68 _ _ ?_
  refine wp_ret ?_
  show bodyPost _ _ _ .ret _ _
  refine ret_of (vs := [.slice Ao (O.length) co]) Z Tryz.results13 ⟨rfl, trivial⟩ ?_
  have O69 : Only NoF w w15 := (Only.trans' o6 o16)
  rw [List.take_of_length_le (by omega), fo_all hH10] at hO; subst hO; exact ⟨_, _, rfl, ow_low rO (size_only o6), O69⟩
theorem Past_v_ {w : World} (hG : Gr w) {l : List NM} {A : Option Addr} {c : Nat} (t : NtV w (.slice A l.length c) l) (hl : l.length ≤ 1000000) (x : Int) : Calls Tryz.prog 15 [.slice A l.length c, .int .i64 x].toArray w (NOut (pastOfN (joinN l) x) w) := by
 refine calls_start Tryz.func15 rfl rfl ?_
 intro az Z
 rw [Tryz.ntmps15] at Z
 refine wp_seq_k fun _ k1 => wp_region_lit ?_
 refine L (r_as Z rfl) Z rfl ?_; clear Z az; intro az Z
 refine k1 _ _ (wp_seq_k fun _ k2 => wp_region_lit ?_)
 refine L (r_mv Z rfl) Z rfl ?_; clear Z az; intro az Z
 have G12 := Gr.k hG (Only.refl NoF w)
 refine LC Z rfl rfl Tryz.call36 (houses_v_ G12 t hl) rfl ?_
 rintro e w3 ⟨A5, c6, H7, rfl, hH8, r9, hO10, o4⟩; refine ⟨_, rfl, ?_⟩
 have hr11 := SliceOf.pl (Row.own KH0 r9 (fun _ _ => trivial))
 have hA := asc_of (l := l) (by rw [hH8])
 have hHl : H7.length ≤ 1000000 := by have h1 := congrArg List.length hH8; rw [List.length_map] at h1; rw [h1]; exact Nat.le_trans (hou_len _) (Nat.le_trans (joinN_le l) hl)
 clear Z az; intro az Z
 refine L (r_as Z rfl) Z rfl ?_; clear Z az; intro az Z
 refine k2 _ _ (wp_seq_k fun _ k13 => ?_)
 refine wp_seq_k fun _ k14 => wp_region_lit ?_
 refine L (r_mv Z rfl) Z rfl ?_; clear Z az; intro az Z
 refine L (r_mv Z rfl) Z rfl ?_; clear Z az; intro az Z
 refine LC Z rfl rfl Tryz.call39 (find_v hr11 x hA hHl) rfl ?_
 rintro e w15 ⟨i16, o17, rfl, hf18, hs19, o20⟩; refine ⟨_, rfl, ?_⟩
 clear Z az; intro az Z
 refine L (r_mv Z rfl) Z rfl ?_; clear Z az; intro az Z
 refine L (r_ex Z rfl rfl) Z rfl ?_; clear Z az; intro az Z
 refine L (r_ex Z rfl rfl) Z rfl ?_; clear Z az; intro az Z
 refine L (r_as Z rfl) Z rfl ?_; clear Z az; intro az Z
 refine L (r_as Z rfl) Z rfl ?_; clear Z az; intro az Z
 refine k14 _ _ (wp_seq_k fun _ k21 => ?_)
 rcases o17 with _ | y22
 ·
  refine wp_region_lit ?_
  refine L (r_mv Z rfl) Z rfl ?_; clear Z az; intro az Z
  refine k21 _ _ ?_
  refine br_false Z rfl ?_
  refine wp_skip ?_
  refine k13 _ _ (wp_seq_k fun _ k23 => wp_region_lit ?_)
  refine L (r_as Z rfl) Z rfl ?_; clear Z az; intro az Z
  refine k23 _ _ ?_
  refine wp_ret ?_
  show bodyPost _ _ _ .ret _ _
  refine ret_of (vs := [.slice none (0) 0]) Z Tryz.results15 ⟨rfl, trivial⟩ ?_
  have O24 : Only NoF w w15 := (Only.trans' o4 o20)
  exact ⟨_, _, [], rfl, (past_none hH8 hf18).symm, SliceOf.nil_ _ _ _, OkNs.nil, O24⟩
 ·
  have hy25 := hs19 _ rfl
  have hi26 := (List.getElem?_eq_some_iff.1 hy25).1
  refine wp_region_lit ?_
  refine L (r_mv Z rfl) Z rfl ?_; clear Z az; intro az Z
  refine k21 _ _ ?_
  refine br_true Z rfl ?_
  refine wp_seq_k fun _ k27 => wp_region_lit ?_
  refine L (r_mv Z rfl) Z rfl ?_; clear Z az; intro az Z
  refine L (r_mv Z rfl) Z rfl ?_; clear Z az; intro az Z
  have hk28 : i16 < (H7).length := by omega
  have h34 := (SliceOf.kp hr11 o20 (fun _ _ h => h) (fun _ _ _ _ h => h))
  obtain ⟨m29, hm30, ok31, hA32⟩ := Row.el KH0 h34 hk28
  have E33 : ∀ W, Only NoF w15 W → CA W (eA A5 4 (i16)) [.int .i64 (m29.h), .slice m29.A (m29.p.length) m29.c, .bool (m29.f), .int .i64 ((m29.t : Int))] := Row.ce KH0 h34 hm30 rfl
  refine L (r_ia (k := i16) (size := 4) Tryz.underlying66 Tryz.sizeOf69 Z rfl rfl rfl hk28 hA32) Z rfl ?_; clear Z az; intro az Z
  refine L (r_fa (m' := 1) Tryz.underlying69 rfl Tryz.sizeOf22 rfl Z rfl rfl) Z rfl ?_; clear Z az; intro az Z
  refine L (r_ld Tryz.isAgg22 Z rfl ((E33 _ (Only.refl NoF w15)) 1 _ rfl)) Z rfl ?_; clear Z az; intro az Z
  refine L (r_as Z rfl) Z rfl ?_; clear Z az; intro az Z
  refine k27 _ _ ?_
  refine wp_ret ?_
  show bodyPost _ _ _ .ret _ _
  refine ret_of (vs := [.slice m29.A (m29.p.length) m29.c]) Z Tryz.results15 ⟨rfl, trivial⟩ ?_
  have hn35 := NtS.sup (NtS.k (hO10 m29 (List.mem_of_getElem? hm30)) o20) (S' := geB w.heap.size) (fun k hk => Nat.le_trans (Nat.le_refl _) hk.1)
  have O36 : Only NoF w w15 := (Only.trans' o4 o20)
  exact ⟨_, _, m29.p, rfl, (by rw [past_at hH8 hf18, show y22 = m29 from Option.some.inj (hy25.symm.trans hm30)]), hn35.1, hn35.2, O36⟩
theorem ready_v_ {w : World} {H : List HR} {A : Option Addr} {c : Nat} (f1 : SliceOf AllB 4 KH0.R w (.slice A H.length c) H) (hA : AscH H) (hHl : H.length ≤ 1000000) {m : NM} (hm1 : okN AllB w m) : Calls Tryz.prog 63 [.slice A H.length c, .agg #[.int .i64 m.h, .int .i64 m.n, .int .i64 m.d, .slice m.A m.l.length m.c, strV m.s]].toArray w (Fix (.bool (readyN (H.map hm) m)) w) := by
 have hml := SliceOf.len hm1.2.2.2.1
 unfold maxLen at hml
 refine calls_start Tryz.func63 rfl rfl ?_
 intro az Z
 rw [Tryz.ntmps63] at Z
 refine wp_seq_k fun _ k1 => wp_region_lit ?_
 refine LBox Z rfl rfl rfl ?_
 clear Z az; intro g2 w3 hg6 hl7 o4 B5 az Z
 refine L (r_as Z rfl) Z rfl ?_; clear Z az; intro az Z
 refine k1 _ _ (wp_seq_k fun _ k8 => ?_)
 refine wp_seq_k fun _ k9 => wp_region_lit ?_
 refine L (r_fa (m' := 3) Tryz.underlying43 rfl Tryz.sizeOf35 rfl Z rfl rfl) Z rfl ?_; clear Z az; intro az Z
 refine L (r_ld Tryz.isAgg35 Z rfl ((Blk.ca B5) 3 _ rfl)) Z rfl ?_; clear Z az; intro az Z
 refine L (r_lenL Tryz.underlying35 Z rfl) Z rfl ?_; clear Z az; intro az Z
 refine L (r_mv Z rfl) Z rfl ?_; clear Z az; intro az Z
 refine k9 _ _ ?_
 refine wp_block ?_
 refine wp_loop_m (fun mz az W => ∃ k : Nat, mz = m.l.length - k ∧ Fr 55 [(0, .slice A (H.length) c), (10, .slice m.A (m.l.length) m.c), (11, .int .i64 (((m.l.length : Nat) : Int))), (12, .int .i64 ((k : Int)))] az ∧ (k ≤ m.l.length) ∧ (∀ r ∈ m.l.take k, okR (H.map hm) r = true) ∧ Only NoF w3 W) ?_ ?_
 ·
  exact ⟨_, 0, rfl, Z.cut ⟨rfl, rfl, rfl, rfl, trivial⟩, Nat.zero_le _, (fun r hr => by cases hr), (Only.refl NoF w3)⟩
 clear Z az
 rintro mz az w10 ⟨k, hm12, Z, hk, hok, o11⟩
 refine wp_seq_k fun _ k13 => wp_region_lit ?_
 refine L (r_ltI Z rfl rfl) Z rfl ?_; clear Z az; intro az Z
 refine k13 _ _ (wp_seq_k fun _ k14 => ?_)
 refine br Z rfl (fun hc15 => ?_) (fun hc15 => ?_)
 ·
  have p16 := of_decide_eq_true hc15
  refine wp_skip ?_
  refine k14 _ _ (wp_seq_k fun _ k17 => ?_)
  refine wp_block ?_
  refine wp_seq_k fun _ k18 => wp_region_lit ?_
  have hk19 : k < (m.l).length := by omega
  have O25 : Only NoF w w10 := (Only.trans' o4 o11)
  have h26 := (SliceOf.kp hm1.2.2.2.1 O25 (fun _ _ h => h) (fun _ _ _ _ h => h))
  obtain ⟨m20, hm21, ok22, hA23⟩ := Row.el KRef h26 hk19
  have E24 : ∀ W, Only NoF w10 W → CA W (eA m.A 2 (k)) [.int .i64 (m20.h), .int .i64 (m20.n)] := Row.ce KRef h26 hm21 rfl
  refine L (r_ia (k := k) (size := 2) Tryz.underlying35 Tryz.sizeOf59 Z rfl rfl rfl hk19 hA23) Z rfl ?_; clear Z az; intro az Z
  refine L (r_ldA Tryz.isAgg59 Tryz.sizeOf59 Z rfl (E24 _ (Only.refl NoF w10)) rfl) Z rfl ?_; clear Z az; intro az Z
  refine LAl (v := .agg #[.int .i64 (0), .int .i64 (0)]) Tryz.zeroValue59 Z rfl rfl ?_
  clear Z az; intro g27 w28 hg31 hl32 o29 B30 az Z
  refine LSt (cs' := [.int .i64 (m20.h), .int .i64 (m20.n)]) Tryz.sizeOf59 Z rfl rfl rfl rfl rfl ⟨rfl, rfl, trivial⟩ B30 rfl rfl fun w33 s34 B35 => ?_
  refine k18 _ _ (wp_seq_k fun _ k36 => wp_region_lit ?_)
  refine L (r_mv Z rfl) Z rfl ?_; clear Z az; intro az Z
  refine L (r_fa (m' := 0) Tryz.underlying59 rfl Tryz.sizeOf3 rfl Z rfl rfl) Z rfl ?_; clear Z az; intro az Z
  refine L (r_ld Tryz.isAgg3 Z rfl ((Blk.ca B35) 0 _ rfl)) Z rfl ?_; clear Z az; intro az Z
  have O43 : Only NoF w w33 := (o_sg (Only.trans' O25 o29) s34 (size_only O25) (oneF_ge hg31))
  have h44 := (SliceOf.kp f1 O43 (fun _ _ h => h) (fun _ _ _ _ h => h))
  refine LC Z rfl rfl Tryz.call39 (find_v h44 m20.h hA hHl) rfl ?_
  rintro e w37 ⟨i38, o39, rfl, hf40, hs41, o42⟩; refine ⟨_, rfl, ?_⟩
  clear Z az; intro az Z
  refine L (r_mv Z rfl) Z rfl ?_; clear Z az; intro az Z
  refine L (r_ex Z rfl rfl) Z rfl ?_; clear Z az; intro az Z
  refine L (r_ex Z rfl rfl) Z rfl ?_; clear Z az; intro az Z
  refine L (r_as Z rfl) Z rfl ?_; clear Z az; intro az Z
  refine L (r_as Z rfl) Z rfl ?_; clear Z az; intro az Z
  refine k36 _ _ (wp_seq_k fun _ k45 => ?_)
  rcases o39 with _ | y46
  ·
   refine reg_q [(true, 0), (true, 1), (true, 2), (true, 3), (true, 4), (true, 5), (true, 6), (true, 7), (true, 8), (true, 9), (true, 10), (true, 11), (true, 12), (true, 13), (true, 14), (true, 15), (true, 16), (true, 17), (true, 18), (true, 19), (true, 20), (true, 21), (true, 22), (true, 23), (true, 24), (true, 25), (true, 26), (true, 27), (true, 28), (true, 29), (true, 30)] (by kernel_rfl) (by kernel_rfl) (fun _ _ _ _ _ h => h) fun w47 o48 => ?_
   refine M (r_mv Z rfl) Z rfl rfl ?_; clear Z az; intro az Z
   refine M (r_not Z rfl) Z rfl rfl ?_; clear Z az; intro az Z
   refine M (r_mv Z rfl) Z rfl rfl ?_; clear Z az; intro az Z
   refine MF Z rfl rfl (by exact rfl) rfl rfl ?_; clear Z az; intro az Z
   refine MF Z rfl rfl (by exact rfl) rfl rfl ?_; clear Z az; intro az Z
   refine MF Z rfl rfl (by exact rfl) rfl rfl ?_; clear Z az; intro az Z
   refine MF Z rfl rfl (by exact rfl) rfl rfl ?_; clear Z az; intro az Z
   refine MF Z rfl rfl (by exact rfl) rfl rfl ?_; clear Z az; intro az Z
   refine MF Z rfl rfl (by exact rfl) rfl rfl ?_; clear Z az; intro az Z
   refine MF Z rfl rfl (by exact rfl) rfl rfl ?_; clear Z az; intro az Z
   refine MF Z rfl rfl (by exact rfl) rfl rfl ?_; clear Z az; intro az Z
   refine MF Z rfl rfl (by exact rfl) rfl rfl ?_; clear Z az; intro az Z
   refine MF Z rfl rfl (by exact rfl) rfl rfl ?_; clear Z az; intro az Z
   refine MF Z rfl rfl (by exact rfl) rfl rfl ?_; clear Z az; intro az Z
   refine MF Z rfl rfl (by exact rfl) rfl rfl ?_; clear Z az; intro az Z
   refine MF Z rfl rfl (by exact rfl) rfl rfl ?_; clear Z az; intro az Z
   refine MF Z rfl rfl (by exact rfl) rfl rfl ?_; clear Z az; intro az Z
   refine MF Z rfl rfl (by exact rfl) rfl rfl ?_; clear Z az; intro az Z
   refine MF Z rfl rfl (by exact rfl) rfl rfl ?_; clear Z az; intro az Z
   refine MF Z rfl rfl (by exact rfl) rfl rfl ?_; clear Z az; intro az Z
   refine MF Z rfl rfl (by exact rfl) rfl rfl ?_; clear Z az; intro az Z
   refine MF Z rfl rfl (by exact rfl) rfl rfl ?_; clear Z az; intro az Z
   refine MF Z rfl rfl (by exact rfl) rfl rfl ?_; clear Z az; intro az Z
   refine MF Z rfl rfl (by exact rfl) rfl rfl ?_; clear Z az; intro az Z
   refine MF Z rfl rfl (by exact rfl) rfl rfl ?_; clear Z az; intro az Z
   refine MF Z rfl rfl (by exact rfl) rfl rfl ?_; clear Z az; intro az Z
   refine MF Z rfl rfl (by exact rfl) rfl rfl ?_; clear Z az; intro az Z
   refine MF Z rfl rfl (by exact rfl) rfl rfl ?_; clear Z az; intro az Z
   refine MF Z rfl rfl (by exact rfl) rfl rfl ?_; clear Z az; intro az Z
   refine MF Z rfl rfl (by exact rfl) rfl rfl ?_; clear Z az; intro az Z
   refine M (r_pick Z rfl rfl rfl) Z rfl rfl ?_; clear Z az; intro az Z
   refine wpMix_nil ?_
   refine k45 _ _ ?_
   refine br_true Z rfl ?_
   refine wp_seq_k fun _ k49 => wp_region_lit ?_
   refine L (r_as Z rfl) Z rfl ?_; clear Z az; intro az Z
   refine k49 _ _ ?_
   refine wp_ret ?_
   show bodyPost _ _ _ .ret _ _
   refine ret_of (vs := [.bool (false)]) Z Tryz.results63 ⟨rfl, trivial⟩ ?_
   have O50 : Only NoF w w47 := (Only.trans' (Only.trans' O43 o42) o48)
   exact ⟨by (unfold readyN; rw [rdy_bad hm21 (okR_none hf40)]) <;> rfl, O50⟩
  ·
   have hy51 := hs41 _ rfl
   have hi52 := (List.getElem?_eq_some_iff.1 hy51).1
   refine reg_q [(true, 0), (true, 1), (true, 2), (true, 3), (true, 4), (true, 5), (true, 6), (true, 7), (true, 8), (true, 9), (true, 10), (true, 11), (true, 12), (true, 13), (true, 14), (true, 15), (true, 16), (true, 17), (true, 18), (true, 19), (true, 20), (true, 21), (true, 22), (true, 23), (true, 24), (true, 25), (true, 26), (true, 27), (true, 28), (true, 29), (true, 30)] (by kernel_rfl) (by kernel_rfl) (fun _ _ _ _ _ h => h) fun w53 o54 => ?_
   refine M (r_mv Z rfl) Z rfl rfl ?_; clear Z az; intro az Z
   refine M (r_not Z rfl) Z rfl rfl ?_; clear Z az; intro az Z
   refine M (r_mv Z rfl) Z rfl rfl ?_; clear Z az; intro az Z
   refine MT Z rfl rfl (r_fa (m' := 1) Tryz.underlying59 rfl Tryz.sizeOf3 rfl Z rfl rfl) rfl rfl ?_; clear Z az; intro az Z
   have B55 := (Blk.k (Blk.k B35 o42) o54)
   refine MT Z rfl rfl (r_ld Tryz.isAgg3 Z rfl ((Blk.ca B55) 1 _ rfl)) rfl rfl ?_; clear Z az; intro az Z
   refine MT Z rfl rfl (r_mv Z rfl) rfl rfl ?_; clear Z az; intro az Z
   refine MT Z rfl rfl (r_mv Z rfl) rfl rfl ?_; clear Z az; intro az Z
   have hk56 : i38 < (H).length := by omega
   have O62 : Only NoF w w53 := (Only.trans' (Only.trans' O43 o42) o54)
   have h63 := (SliceOf.kp f1 O62 (fun _ _ h => h) (fun _ _ _ _ h => h))
   obtain ⟨m57, hm58, ok59, hA60⟩ := Row.el KH0 h63 hk56
   have E61 : ∀ W, Only NoF w53 W → CA W (eA A 4 (i38)) [.int .i64 (m57.h), .slice m57.A (m57.p.length) m57.c, .bool (m57.f), .int .i64 ((m57.t : Int))] := Row.ce KH0 h63 hm58 rfl
   refine MT Z rfl rfl (r_ia (k := i38) (size := 4) Tryz.underlying66 Tryz.sizeOf69 Z rfl rfl rfl hk56 hA60) rfl rfl ?_; clear Z az; intro az Z
   refine MT Z rfl rfl (r_fa (m' := 3) Tryz.underlying69 rfl Tryz.sizeOf3 rfl Z rfl rfl) rfl rfl ?_; clear Z az; intro az Z
   refine MT Z rfl rfl (r_ld Tryz.isAgg3 Z rfl ((E61 _ (Only.refl NoF w53)) 3 _ rfl)) rfl rfl ?_; clear Z az; intro az Z
   refine MT Z rfl rfl (r_geI Z rfl rfl) rfl rfl ?_; clear Z az; intro az Z
   refine MT Z rfl rfl (r_mv Z rfl) rfl rfl ?_; clear Z az; intro az Z
   refine MG Z rfl rfl gd_t (fun hb => r_mv Z rfl) rfl rfl ?_; clear Z az; intro az Z
   refine MG Z rfl rfl gd_t (fun hb => r_mv Z rfl) rfl rfl ?_; clear Z az; intro az Z
   refine MG Z rfl rfl gd_t (fun hb => r_ia (k := i38) (size := 4) Tryz.underlying66 Tryz.sizeOf69 Z (evg hb rfl) (evg hb rfl) rfl hk56 hA60) rfl rfl ?_; clear Z az; intro az Z
   refine MG Z rfl rfl gd_t (fun hb => r_fa (m' := 2) Tryz.underlying69 rfl Tryz.sizeOf4 rfl Z (evg hb rfl) rfl) rfl rfl ?_; clear Z az; intro az Z
   refine MG Z rfl rfl gd_t (fun hb => r_ld Tryz.isAgg4 Z (evg hb rfl) ((E61 _ (Only.refl NoF w53)) 2 _ rfl)) rfl rfl ?_; clear Z az; intro az Z
   refine MG Z rfl rfl gd_t (fun hb => r_mv Z (evg hb rfl)) rfl rfl ?_; clear Z az; intro az Z
   refine MG Z rfl rfl gd_gt (fun hb => r_fa (m' := 1) Tryz.underlying59 rfl Tryz.sizeOf3 rfl Z rfl rfl) rfl rfl ?_; clear Z az; intro az Z
   refine MG Z rfl rfl gd_gt (fun hb => r_ld Tryz.isAgg3 Z (evg hb rfl) ((Blk.ca B55) 1 _ rfl)) rfl rfl ?_; clear Z az; intro az Z
   refine MG Z rfl rfl gd_gt (fun hb => r_mv Z rfl) rfl rfl ?_; clear Z az; intro az Z
   refine MG Z rfl rfl gd_gt (fun hb => r_mv Z rfl) rfl rfl ?_; clear Z az; intro az Z
   refine MG Z rfl rfl gd_gt (fun hb => r_ia (k := i38) (size := 4) Tryz.underlying66 Tryz.sizeOf69 Z (evg hb rfl) (evg hb rfl) rfl hk56 hA60) rfl rfl ?_; clear Z az; intro az Z
   refine MG Z rfl rfl gd_gt (fun hb => r_fa (m' := 1) Tryz.underlying69 rfl Tryz.sizeOf22 rfl Z (evg hb rfl) rfl) rfl rfl ?_; clear Z az; intro az Z
   refine MG Z rfl rfl gd_gt (fun hb => r_ld Tryz.isAgg22 Z (evg hb rfl) ((E61 _ (Only.refl NoF w53)) 1 _ rfl)) rfl rfl ?_; clear Z az; intro az Z
   refine MG Z rfl rfl gd_gt (fun hb => r_lenL Tryz.underlying22 Z (evg hb rfl)) rfl rfl ?_; clear Z az; intro az Z
   refine MG Z rfl rfl gd_gt (fun hb => r_geI Z (evg hb rfl) (evg hb rfl)) rfl rfl ?_; clear Z az; intro az Z
   refine MG Z rfl rfl gd_t (fun hb => r_and Z (evg hb rfl) (evgc hb rfl) rfl) rfl rfl ?_; clear Z az; intro az Z
   refine MG Z rfl rfl gd_t (fun hb => r_not Z (evg hb rfl)) rfl rfl ?_; clear Z az; intro az Z
   refine MT Z rfl rfl (r_and Z rfl rfl rfl) rfl rfl ?_; clear Z az; intro az Z
   refine M (r_pick Z rfl rfl rfl) Z rfl rfl ?_; clear Z az; intro az Z
   refine wpMix_nil ?_
   refine k45 _ _ ?_
   refine br Z rfl (fun hc64 => ?_) (fun hc64 => ?_)
   ·
    have p65 := of_decide_eq_true (and_t hc64).1
    have d66 := (nt_t (and_t hc64).2)
    refine wp_seq_k fun _ k67 => wp_region_lit ?_
    refine L (r_as Z rfl) Z rfl ?_; clear Z az; intro az Z
    refine k67 _ _ ?_
    refine wp_ret ?_
    show bodyPost _ _ _ .ret _ _
    refine ret_of (vs := [.bool (false)]) Z Tryz.results63 ⟨rfl, trivial⟩ ?_
    exact ⟨by (unfold readyN; rw [rdy_bad hm21 (by rw [okR_some hf40 hy51 hm58, hc64]; rfl)]) <;> rfl, O62⟩
   ·
    have d68 := hc64
    refine wp_skip ?_
    refine k17 _ _ ?_
    refine wp_region_lit ?_
    have i69 : I64 (((k : Int) + 1)) := by unfold I64; omega
    refine L (r_addI (r := ((k : Int) + 1)) Z rfl rfl rfl i69) Z rfl ?_; clear Z az; intro az Z
    refine L (r_mv Z rfl) Z rfl ?_; clear Z az; intro az Z
    have O70 : Only NoF w3 w53 := (Only.trans' (Only.trans' (o_sg (Only.trans' o11 o29) s34 (size_only o11) (oneF_ge hg31)) o42) o54)
    exact ⟨_, (by omega), k + 1, rfl, Z.cut ⟨rfl, rfl, rfl, rfl, trivial⟩, (by omega), (rdy_step hm21 hok (by rw [okR_some hf40 hy51 hm58, hc64]; rfl)), O70⟩
 ·
  have p71 := of_decide_eq_false hc15
  refine wp_exit ?_
  refine th_exit ?_
  refine th_exit ?_
  refine ib_hit ?_
  refine k8 _ _ (wp_seq_k fun _ k72 => wp_region_lit ?_)
  refine L (r_as Z rfl) Z rfl ?_; clear Z az; intro az Z
  refine k72 _ _ ?_
  refine wp_ret ?_
  show bodyPost _ _ _ .ret _ _
  refine ret_of (vs := [.bool (true)]) Z Tryz.results63 ⟨rfl, trivial⟩ ?_
  have O73 : Only NoF w w10 := (Only.trans' o4 o11)
  rw [List.take_of_length_le (by omega)] at hok; exact ⟨by (unfold readyN; rw [rdy_all hok]) <;> rfl, O73⟩
end
section
open Go.RowKit
def nxt (y : HM) : Option NM := y.p[y.t]?
def dayOf (hs : List HM) (q : Nat) : Int := match hs[q]? with
 | some z => match nxt z with | some m => m.d | none => 0
 | none => 0
def bestN (hs : List HM) : Nat → Option Nat
 | 0 => none
 | k + 1 => match hs[k]? with
  | none => bestN hs k
  | some y => match nxt y with
   | none => bestN hs k
   | some m => if (match bestN hs k with | none => true | some q => decide (m.d < dayOf hs q)) && readyN hs m then some k else bestN hs k
def putN (hs : List HM) (q : Nat) (y : HM) : List HM := hs.set q ⟨y.h, y.p, y.f, y.t + 1⟩
def restN (hs : List HM) : Nat := (hs.map fun y => y.p.length - y.t).sum
def runF : Nat → List HM → List NM → List HM × List NM
 | 0, hs, out => (hs, out)
 | f + 1, hs, out => match bestN hs hs.length with
  | none => (hs, out)
  | some q => match hs[q]? with
   | none => (hs, out)
   | some y => match nxt y with
    | none => (hs, out)
    | some m => runF f (putN hs q y) (out ++ [m])
def runN (J : List NM) : List HM × List NM := runF (restN (houN J)) (houN J) []
def orderN (J : List NM) : List NM := (runN J).2
def headsN (J : List NM) : List RM := ((runN J).1.filter fun y => decide (0 < y.t)).map fun y => ⟨y.h, (y.t : Int)⟩
/-- the best one's place as the program writes it -/
def bst : Option Nat → Int
 | none => -1
 | some q => (q : Int)
section
variable {hs : List HM} {k q : Nat} {y : HM} {m : NM} {out : List NM}
theorem best_at : ∀ {k : Nat}, bestN hs k = some q → q < k ∧ ∃ y m, hs[q]? = some y ∧ nxt y = some m ∧ readyN hs m = true
 | 0, h => by unfold bestN at h; cases h
 | k + 1, h => by
  unfold bestN at h
  split at h
  · have := best_at h; exact ⟨by omega, this.2⟩
  · rename_i y e1
    split at h
    · have := best_at h; exact ⟨by omega, this.2⟩
    · rename_i m e2
      generalize (match bestN hs k with | none => true | some q => decide (m.d < dayOf hs q)) = c0 at h
      split at h
      · rename_i e3
        injection h with h
        subst h
        rw [Bool.and_eq_true] at e3
        exact ⟨by omega, y, m, e1, e2, e3.2⟩
      · have := best_at h; exact ⟨by omega, this.2⟩
theorem rest_put (hy : hs[q]? = some y) (ht : y.t < y.p.length) : restN (putN hs q y) + 1 = restN hs := by
 unfold restN putN
 induction hs generalizing q with
 | nil => simp at hy
 | cons a r ih =>
  cases q with
  | zero =>
   have : a = y := by simpa using hy
   subst this
   simp only [List.set_cons_zero, List.map_cons, List.sum_cons]
   omega
  | succ q =>
   have := ih (q := q) (by simpa using hy)
   simp only [List.set_cons_succ, List.map_cons, List.sum_cons]
   omega
theorem run_end (h : bestN hs hs.length = none) : ∀ f, runF f hs out = (hs, out)
 | 0 => rfl
 | f + 1 => by unfold runF; rw [h]
theorem run_go (h : bestN hs hs.length = some q) (hy : hs[q]? = some y) (hm : nxt y = some m) : runF (restN hs) hs out = runF (restN (putN hs q y)) (putN hs q y) (out ++ [m]) := by
 have ht : y.t < y.p.length := (List.getElem?_eq_some_iff.1 hm).1
 rw [← rest_put hy ht]
 conv => lhs; unfold runF
 rw [h]
 simp only [hy, hm]
end
section
variable {H : List HR} {k q : Nat} {y z : HR} {m x : NM} {b : Bool}
theorem get_hm (hy : H[k]? = some y) : (H.map hm)[k]? = some (hm y) := by rw [List.getElem?_map, hy]; rfl
theorem nxt_hm (hx : y.p[y.t]? = some m) : nxt (hm y) = some (ns m) := by
 show (y.p.map ns)[y.t]? = _
 rw [List.getElem?_map, hx]; rfl
theorem nxt_no (h : ¬ y.t < y.p.length) : nxt (hm y) = none := by
 show (y.p.map ns)[y.t]? = _
 rw [List.getElem?_eq_none]
 rw [List.length_map]; omega
theorem b_a (hy : H[k]? = some y) (h : ¬ y.t < y.p.length) : bestN (H.map hm) (k + 1) = bestN (H.map hm) k := by
 conv => lhs; unfold bestN
 rw [get_hm hy]
 simp only [nxt_no h]
theorem b_b (hy : H[k]? = some y) (hm' : y.p[y.t]? = some m) (hb : bestN (H.map hm) k = none) (h : readyN (H.map hm) m = b) : bestN (H.map hm) (k + 1) = if b then some k else none := by
 conv => lhs; unfold bestN
 rw [get_hm hy]
 simp only [nxt_hm hm', hb]
 rw [show readyN (H.map hm) (ns m) = b from h, Bool.true_and]
theorem b_c (hy : H[k]? = some y) (hm' : y.p[y.t]? = some m) (hb : bestN (H.map hm) k = some q) (hz : H[q]? = some z) (hx : z.p[z.t]? = some x) (h : (decide (m.d < x.d) && readyN (H.map hm) m) = b) : bestN (H.map hm) (k + 1) = if b then some k else some q := by
 conv => lhs; unfold bestN
 rw [get_hm hy]
 simp only [nxt_hm hm', hb]
 have : dayOf (H.map hm) q = x.d := by
  unfold dayOf
  rw [get_hm hz]
  simp only [nxt_hm hx]
  rfl
 rw [this, show readyN (H.map hm) (ns m) = readyN (H.map hm) m from rfl, show (ns m).d = m.d from rfl, h]
theorem best_lt (hb : bestN (H.map hm) k = some q) : q < k ∧ ∀ z, H[q]? = some z → z.t < z.p.length := by
 obtain ⟨h1, y, m, h2, h3, _⟩ := best_at hb
 refine ⟨h1, fun z hz => ?_⟩
 rw [get_hm hz] at h2
 injection h2 with h2
 subst h2
 have := (List.getElem?_eq_some_iff.1 h3).1
 have h4 : (hm z).p.length = z.p.length := by show (z.p.map ns).length = _; rw [List.length_map]
 have h5 : (hm z).t = z.t := rfl
 omega
theorem put_hm (hz : H[q]? = some z) : putN (H.map hm) q (hm z) = (H.set q ⟨z.h, z.A, z.p, z.c, z.f, z.t + 1⟩).map hm := by
 unfold putN
 rw [List.map_set]
 rfl
theorem run_goH (hb : bestN (H.map hm) H.length = some q) (hz : H[q]? = some z) (hx : z.p[z.t]? = some x) (O : List NM) : runF (restN (H.map hm)) (H.map hm) (O.map ns) = runF (restN ((H.set q ⟨z.h, z.A, z.p, z.c, z.f, z.t + 1⟩).map hm)) ((H.set q ⟨z.h, z.A, z.p, z.c, z.f, z.t + 1⟩).map hm) ((O ++ [x]).map ns) := by
 rw [run_go (q := q) (y := hm z) (m := ns x) (by rw [List.length_map]; exact hb) (get_hm hz) (nxt_hm hx), put_hm hz, List.map_append]
 rfl
theorem rest_goH (hz : H[q]? = some z) (hx : z.t < z.p.length) : restN ((H.set q ⟨z.h, z.A, z.p, z.c, z.f, z.t + 1⟩).map hm) + 1 = restN (H.map hm) := by
 rw [← put_hm hz]
 exact rest_put (get_hm hz) (by show z.t < (z.p.map ns).length; rw [List.length_map]; exact hx)
end
theorem rest_hou : ∀ (f : Nat) (J : List NM), restN (housesF f J) ≤ J.length
 | 0, J => by unfold housesF restN; simp
 | f + 1, [] => by unfold housesF restN; simp
 | f + 1, a :: r => by
  unfold housesF
  have h1 := rest_hou f ((a :: r).drop (runLen (a :: r)))
  have h2 := past_le ((a :: r).take (runLen (a :: r)))
  unfold restN at *
  simp only [List.map_cons, List.sum_cons]
  have h3 : (pastN ((a :: r).take (runLen (a :: r)))).length ≤ ((a :: r).take (runLen (a :: r))).length := by
   unfold pastN; rw [List.length_take]; omega
  rw [List.length_take] at h3
  rw [List.length_drop] at h1
  omega
end
section
open Go.RowKit
section
variable {P : Program} {ops : Array Oper} {Q : Exit → Act → World → Prop} {a : Act} {w w1 : World} {n : Nat} {l : List (Nat × Value)} {d : Nat} {ty : TypeId} {pos : String} {aft : Array Edge} {xs : List Operand} {ats : Array TypeId} {f : FuncId} {vs : List Value} {fo : Operand} {j dj : Nat} {want c : Bool} {u : Value} {T : List Nat} {k i : Nat} {r : Plan} {F : Nat → Prop} {m : Nat}
theorem Pl.MXF {op : Op} (H : Fr n l a) (hj : (ops[j]?).bind (·.dst) = some dj) (hb : look l dj = some u) (hn : Gd u want false)
 (ho : ops[i]? = some ⟨some d, op, ty, pos, aft, some (j, want)⟩) (hd : Nat.blt d n = true) (hS : SK F m w1 (k + 1) w)
 (h : ∀ a', Fr n ((d, undef) :: l) a' → wpPl P ops Q (SK F m w1) T (k + 1) r a' w) : wpPl P ops Q (SK F m w1) T k (.ex i r) a w := by
 have hw := wanted_eq (op := op) (ty := ty) (pos := pos) (aft := aft) (d := d) (want := want) H hj hb hn
 simp only [wpPl, wpOp, ho]
 rw [hw]
 exact ⟨hS, h _ (H.puts hd _)⟩
end
section
variable {P : Program} {ops : Array Oper} {Q : Exit → Act → World → Prop} {rest : List Oper} {a : Act} {w w' : World} {n : Nat} {l : List (Nat × Value)} {ty : TypeId} {pos : String} {aft : Array Edge} {x y : Operand} {t e : TypeId} {base size n' c k j : Nat} {u v : Value} {xs : List Value} {q : Addr} {A : Option Addr}
theorem row_storeF (hS : ∀ w, (sizeOf t).run P w = .ok 1 w) (hu : u.cells = [v].toArray) (h1 : AllOne [v]) (hown : w.ownsRow base e size (.slice A n' c) n' xs) (hk : k < n') (hj : j < size) :
 ∃ w', (Instr.storeAt t (.pointer (some ((eA A size k).add j))) u).run P w = .ok () w' ∧ Only (ownF (.slice A n' c)) w w' ∧ w'.ownsRow base e size (.slice A n' c) n' (splice xs (k * size + j) [v]) := by
 obtain ⟨hl, ⟨_, e0⟩ | ⟨g, cap, cur, hv', hb, hh, hnc, hcm, hcs, ht⟩⟩ := hown
 · omega
 · injection hv' with hv1 _ hv2
   subst hv1 hv2
   have hq : (eA (some ⟨g, 0, none⟩) size k).add j = ⟨g, k * size + j, none⟩ := by
    show ((⟨g, 0, none⟩ : Addr).add (k * size)).add j = _
    rw [Addr.add_lit, Addr.add_lit]; simp
   have hb1 : (k + 1) * size ≤ n' * size := Nat.mul_le_mul_right _ hk
   have hb2 : n' * size ≤ c * size := Nat.mul_le_mul_right _ hnc
   have hb3 : (k + 1) * size = k * size + size := Nat.succ_mul k size
   have hcl : cur.toList.length = c * size := by rw [Array.length_toList]; exact hcs
   rw [hq]
   obtain ⟨w', hr, ho, hB⟩ := run_store (P := P) (t := t) (e := e) (g := g) (off := k * size + j) (m := 1) (cs := cur.toList) (vs := [v]) hS hu (by simp) h1 (by simpa [Blk] using hh) (by rw [Nat.ble_eq, hcl]; simp only [List.length_cons, List.length_nil]; omega) rfl
   have hl1 : (splice cur.toList (k * size + j) [v]).length = cur.toList.length := length_splice (by simp only [List.length_cons, List.length_nil]; omega)
   have hF : (oneF g) = ownF (.slice (some ⟨g, 0, none⟩) n' c) := by
    funext x
    unfold oneF ownF Value.ownBlock
    simp [eq_comm]
   have hl2 : (splice xs (k * size + j) [v]).length = xs.length := length_splice (by simp only [List.length_cons, List.length_nil]; omega)
   refine ⟨w', hr, by rw [← hF]; exact ho, by rw [hl2]; exact hl, .inr ⟨g, c, _, rfl, hb, hB, hnc, hcm, by rw [List.size_toArray, hl1]; exact hcl, ?_⟩⟩
   have ht' : xs = cur.toList.take (n' * size) := ht.symm
   show (splice cur.toList (k * size + j) [v]).take (n' * size) = splice xs (k * size + j) [v]
   rw [ht']
   unfold splice
   rw [List.take_take, Nat.min_eq_left (by omega), List.append_assoc, List.append_assoc, List.take_append, List.length_take, Nat.min_eq_left (by omega), List.take_take, Nat.min_eq_right (by omega)]
   congr 1
   rw [List.take_append, List.take_of_length_le (by simp only [List.length_cons, List.length_nil]; omega), List.drop_take]
   congr 2
theorem LStF (hS : ∀ w, (sizeOf t).run P w = .ok 1 w) (H : Fr n l a) (hx : ev l x = some (.pointer (some q))) (hq : q = (eA A size k).add j) (hy : ev l y = some u) (hu : u.cells = [v].toArray) (h1 : AllOne [v]) (hown : w.ownsRow base e size (.slice A n' c) n' xs) (hk : k < n') (hj : j < size)
 (h : ∀ w', Only (ownF (.slice A n' c)) w w' → w'.ownsRow base e size (.slice A n' c) n' (splice xs (k * size + j) [v]) → wpList P ops Q rest a w') :
 wpList P ops Q (⟨none, .store t x y, ty, pos, aft, none⟩ :: rest) a w := by
 subst hq
 obtain ⟨w', hr, h2, h3⟩ := row_storeF (P := P) hS hu h1 hown hk hj
 refine LS (w' := w') ?_ (h w' h2 h3)
 simp only [execOp, H.eval hx, H.eval hy, Sem.run_bind, hr, Result.andThen_ok, Sem.run_pure]
end
section
variable {S : Nat → Prop} {w : World} {H : List HR} {q k base c n : Nat} {z : HR} {e : TypeId} {A : Option Addr}
theorem own_lenO (h : w.ownsRow base e 4 (.slice A n c) n (H.flatMap KH0.cells)) (hl : H.length = n) : SliceOf (ownF (.slice A n c)) 4 KH0.R w (.slice A n c) H := by
 subst hl
 exact SliceOf.of_own (R := KH0.R) h fun i x hx => by
  obtain ⟨hi, rfl⟩ := List.getElem?_eq_some_iff.1 hx
  exact ⟨flat_get KH0 H i hi, trivial⟩
theorem flat_taken : ∀ {H : List HR} {q : Nat}, H[q]? = some z → splice (H.flatMap KH0.cells) (q * 4 + 3) [.int .i64 ((z.t : Int) + 1)] = (H.set q ⟨z.h, z.A, z.p, z.c, z.f, z.t + 1⟩).flatMap KH0.cells
 | [], q, h => by simp at h
 | x :: r, 0, h => by
  have : x = z := by simpa using h
  subst this
  rfl
 | x :: r, q + 1, h => by
  have ih := flat_taken (H := r) (q := q) (by simpa using h)
  rw [List.set_cons_succ, List.flatMap_cons, List.flatMap_cons, ← ih]
  unfold splice
  have hl : (KH0.cells x).length = 4 := rfl
  rw [List.take_append, List.drop_append, hl, List.take_of_length_le (by rw [hl]; omega), List.drop_of_length_le (by rw [hl]; simp only [List.length_cons, List.length_nil]; omega), List.nil_append, show (q + 1) * 4 + 3 - 4 = q * 4 + 3 by omega, show (q + 1) * 4 + 3 + [Value.int .i64 ((z.t : Int) + 1)].length - 4 = q * 4 + 3 + [Value.int .i64 ((z.t : Int) + 1)].length by simp only [List.length_cons, List.length_nil]; omega]
  simp only [List.append_assoc]
theorem OkHs.lt (h : OkHs S w H) : OkHs (fun k => S k ∧ k < w.heap.size) w H := fun x hx => NtS.lt (h x hx).1 (h x hx).2
theorem OkHs.set (h : OkHs S w H) (hz : H[q]? = some z) {t : Nat} : OkHs S w (H.set q ⟨z.h, z.A, z.p, z.c, z.f, t⟩) := fun x hx => by
 rcases List.mem_or_eq_of_mem_set hx with e | e
 · exact h x e
 · subst e; exact h z (List.mem_of_getElem? hz)
theorem asc_set (h : AscH H) (hz : H[q]? = some z) {t : Nat} : AscH (H.set q ⟨z.h, z.A, z.p, z.c, z.f, t⟩) := by
 have key : ∀ (i : Nat) (x : HR), (H.set q ⟨z.h, z.A, z.p, z.c, z.f, t⟩)[i]? = some x → ∃ y, H[i]? = some y ∧ y.h = x.h := by
  intro i x hx
  rw [List.getElem?_set] at hx
  split at hx
  · rename_i e
    split at hx
    · injection hx with hx
      subst e hx
      exact ⟨z, hz, rfl⟩
    · cases hx
  · exact ⟨x, hx, rfl⟩
 intro i j x y hij hx hy
 obtain ⟨x2, a1, a2⟩ := key i x hx
 obtain ⟨y2, b1, b2⟩ := key j y hy
 have := h i j x2 y2 hij a1 b1
 omega
theorem own_none : ¬ ownF (.slice none n c) k := fun h => by unfold ownF Value.ownBlock at h; cases h
theorem bst_none {o : Option Nat} {z : Int} (h : z = bst o) (hz : z < 0) : o = none := by
 cases o with
 | none => rfl
 | some q => unfold bst at h; simp only at h; omega
theorem bst_some {o : Option Nat} {z : Int} (h : z = bst o) (hz : ¬ z < 0) : ∃ q : Nat, o = some q ∧ z = (q : Int) := by
 cases o with
 | none => unfold bst at h; simp only at h; omega
 | some q => exact ⟨q, rfl, h⟩
end
theorem rest_le (l : List NM) : restN (houN (joinN l)) ≤ l.length := Nat.le_trans (rest_hou _ _) (joinN_le l)
/-- what run gives -/
def RunTo (N : List HM × List NM) (w : World) (e : Ending) (w' : World) : Prop := ∃ A c, ∃ H : List HR, ∃ A2 c2, ∃ O : List NM, e = .returned (.tuple #[.slice A H.length c, .slice A2 O.length c2]) ∧ (H.map hm, O.map ns) = N ∧ SliceOf AllB 4 KH0.R w' (.slice A H.length c) H ∧ NtS (geB w.heap.size) w' (.slice A2 O.length c2) O ∧ Only NoF w w'
theorem run_v_ {w : World} (hG : Gr w) {l : List NM} {A : Option Addr} {c : Nat} (t : NtV w (.slice A l.length c) l) (hl : l.length ≤ 1000000) : Calls Tryz.prog 41 [.slice A l.length c].toArray w (RunTo (runN (joinN l)) w) := by
 refine calls_start Tryz.func41 rfl rfl ?_
 intro az Z
 rw [Tryz.ntmps41] at Z
 refine wp_seq_k fun _ k1 => wp_region_lit ?_
 refine L (r_as Z rfl) Z rfl ?_; clear Z az; intro az Z
 refine L (r_as Z rfl) Z rfl ?_; clear Z az; intro az Z
 refine k1 _ _ (wp_seq_k fun _ k2 => wp_region_lit ?_)
 refine L (r_mv Z rfl) Z rfl ?_; clear Z az; intro az Z
 have G12 := Gr.k hG (Only.refl NoF w)
 refine LC Z rfl rfl Tryz.call36 (houses_v_ G12 t hl) rfl ?_
 rintro e w3 ⟨A5, c6, H7, rfl, hH8, r9, hO10, o4⟩; refine ⟨_, rfl, ?_⟩
 have hr11 := SliceOf.pl (Row.own KH0 r9 (fun _ _ => trivial))
 have hA := asc_of (l := l) (by rw [hH8])
 have hHl : H7.length ≤ 1000000 := by have h1 := congrArg List.length hH8; rw [List.length_map] at h1; rw [h1]; exact Nat.le_trans (hou_len _) (Nat.le_trans (joinN_le l) hl)
 clear Z az; intro az Z
 refine L (r_as Z rfl) Z rfl ?_; clear Z az; intro az Z
 refine k2 _ _ (wp_seq_k fun _ k13 => wp_region_lit ?_)
 refine L (r_as Z rfl) Z rfl ?_; clear Z az; intro az Z
 refine k13 _ _ ?_
 refine wp_block ?_
 refine wp_loop_m (fun mz az W => ∃ H : List HR, ∃ O : List NM, ∃ Ao : Option Addr, ∃ co : Nat, mz = restN (H.map hm) ∧ Fr 90 [(4, .slice A5 (H7.length) c6), (5, .slice Ao (O.length) co)] az ∧ (H.length = H7.length) ∧ (AscH H) ∧ (runF (restN (H.map hm)) (H.map hm) (O.map ns) = runN (joinN l)) ∧ (O.length + restN (H.map hm) ≤ 1000000) ∧ Only NoF w W ∧ W.ownsRow w.heap.size 69 4 (.slice A5 H7.length c6) H7.length (List.flatMap KH0.cells H) ∧ W.ownsRow w.heap.size 43 5 (.slice Ao O.length co) O.length (List.flatMap KN0.cells O) ∧ OkHs (fun k => (w.heap.size ≤ k ∧ ¬ ownF (.slice A5 H7.length c6) k) ∧ k < w3.heap.size) W H ∧ OkNs (fun k => (w.heap.size ≤ k ∧ ¬ ownF (.slice A5 H7.length c6) k) ∧ k < w3.heap.size) W O ∧ (∀ k, ownF (.slice Ao O.length co) k → w3.heap.size ≤ k) ∧ w3.heap.size ≤ W.heap.size) ?_ ?_
 ·
  exact ⟨_, H7, [], none, 0, rfl, Z.cut ⟨rfl, rfl, trivial⟩, rfl, hA, (by rw [hH8]; rfl), (by rw [hH8]; have := rest_le l; simp only [List.length_nil]; omega), o4, r9, (World.ownsRow_nil _ _ _ _), (OkHs.lt hO10), OkNs.nil, (fun k h => absurd h own_none), (Nat.le_refl _)⟩
 clear Z az
 rintro mz az w14 ⟨H, O, Ao, co, hm16, Z, hHn, hAH, hrun, hOl, o15, rH, rO, hOk, hN, hsep, hsz⟩
 refine wp_block ?_
 refine wp_seq_k fun _ k17 => wp_region_lit ?_
 refine L (r_as Z rfl) Z rfl ?_; clear Z az; intro az Z
 refine k17 _ _ (wp_seq_k fun _ k18 => ?_)
 refine wp_seq_k fun _ k19 => wp_region_lit ?_
 refine L (r_mv Z rfl) Z rfl ?_; clear Z az; intro az Z
 refine L (r_lenL Tryz.underlying66 Z rfl) Z rfl ?_; clear Z az; intro az Z
 refine L (r_mv Z rfl) Z rfl ?_; clear Z az; intro az Z
 refine k19 _ _ ?_
 refine wp_block ?_
 refine wp_loop_m (fun mz az W => ∃ k : Nat, ∃ z : Int, mz = H7.length - k ∧ Fr 90 [(4, .slice A5 (H7.length) c6), (5, .slice Ao (O.length) co), (11, .slice A5 (H7.length) c6), (12, .int .i64 (((H7.length : Nat) : Int))), (13, .int .i64 ((k : Int))), (6, .int .i64 (z))] az ∧ (k ≤ H7.length) ∧ (z = bst (bestN (H.map hm) k)) ∧ Only NoF w14 W) ?_ ?_
 ·
  exact ⟨_, 0, (-1), rfl, Z.cut ⟨rfl, rfl, rfl, rfl, rfl, rfl, trivial⟩, Nat.zero_le _, rfl, (Only.refl NoF w14)⟩
 clear Z az
 rintro mz az w20 ⟨k, z, hm22, Z, hk, hz, o21⟩
 refine wp_seq_k fun _ k23 => wp_region_lit ?_
 refine L (r_ltI Z rfl rfl) Z rfl ?_; clear Z az; intro az Z
 refine k23 _ _ (wp_seq_k fun _ k24 => ?_)
 refine br Z rfl (fun hc25 => ?_) (fun hc25 => ?_)
 ·
  have p26 := of_decide_eq_true hc25
  refine wp_skip ?_
  refine k24 _ _ (wp_seq_k fun _ k27 => ?_)
  refine wp_block ?_
  refine wp_seq_k fun _ k28 => wp_region_lit ?_
  refine L (r_mv Z rfl) Z rfl ?_; clear Z az; intro az Z
  have r30 := (ow_k rH o21)
  have h29 := own_lenO r30 hHn
  have hk31 : k < H7.length := by omega
  have hk32 : k < H.length := by omega
  obtain ⟨m33, hm34, ok35, hA36⟩ := Row.el KH0 h29 hk32
  have E37 : ∀ W, Only NoF w20 W → CA W (eA A5 4 (k)) [.int .i64 (m33.h), .slice m33.A (m33.p.length) m33.c, .bool (m33.f), .int .i64 ((m33.t : Int))] := Row.ce KH0 h29 hm34 rfl
  have hp38 := hOk m33 (List.mem_of_getElem? hm34)
  refine L (r_ia (k := k) (size := 4) Tryz.underlying66 Tryz.sizeOf69 Z rfl rfl rfl hk31 hA36) Z rfl ?_; clear Z az; intro az Z
  refine L (r_ldA Tryz.isAgg69 Tryz.sizeOf69 Z rfl (E37 _ (Only.refl NoF w20)) rfl) Z rfl ?_; clear Z az; intro az Z
  refine LAl (v := .agg #[.int .i64 (0), .slice none (0) 0, .bool (false), .int .i64 (0)]) Tryz.zeroValue69 Z rfl rfl ?_
  clear Z az; intro g39 w40 hg43 hl44 o41 B42 az Z
  refine L (r_as Z rfl) Z rfl ?_; clear Z az; intro az Z
  refine LSt (cs' := [.int .i64 (m33.h), .slice m33.A (m33.p.length) m33.c, .bool (m33.f), .int .i64 ((m33.t : Int))]) Tryz.sizeOf69 Z rfl rfl rfl rfl rfl ⟨rfl, rfl, rfl, rfl, trivial⟩ B42 rfl rfl fun w45 s46 B47 => ?_
  refine k28 _ _ (wp_seq_k fun _ k48 => ?_)
  by_cases ht : m33.t < m33.p.length
  ·
   rcases hbk : bestN (H.map hm) k with _ | q
   ·
    rw [hbk] at hz; change z = -1 at hz; subst hz
    refine reg_p NoF 1 [41] (.rd 0 (.rd 1 (.rd 2 (.rd 3 (.rd 4 (.rd 5 (.rd 6 (.rd 7 (.rd 8 (.rd 9 (.rd 10 (.rd 11 (.rd 12 (.rd 13 (.rd 14 (.rd 15 (.rd 16 (.rd 17 (.rd 18 (.rd 19 (.rd 20 (.rd 21 (.rd 22 (.rd 23 (.rd 24 (.rd 25 (.rd 26 (.rd 27 (.rd 28 (.rd 29 (.rd 30 (.rd 31 (.rd 32 (.rd 33 (.rd 34 (.rd 35 (.rd 36 (.rd 37 (.rd 38 (.rd 39 (.rd 40 (.ex 41 (.rd 42 .nil))))))))))))))))))))))))))))))))))))))))))) (by kernel_rfl) (by kernel_rfl) (fun _ _ _ _ _ h => h) fun w49 o50 => ?_
    have B51 := (Blk.k B47 o50)
    refine Pl.MSP (b := true) (by kernel_rfl) (fun W oW => r_fa (m' := 3) Tryz.underlying69 rfl Tryz.sizeOf3 rfl Z rfl rfl) Z rfl rfl ?_; clear Z az; intro az Z
    refine Pl.MSP (b := true) (by kernel_rfl) (fun W oW => r_ld Tryz.isAgg3 Z rfl ((Blk.ca (Blk.k B51 oW)) 3 _ rfl)) Z rfl rfl ?_; clear Z az; intro az Z
    refine Pl.MSP (b := true) (by kernel_rfl) (fun W oW => r_fa (m' := 1) Tryz.underlying69 rfl Tryz.sizeOf22 rfl Z rfl rfl) Z rfl rfl ?_; clear Z az; intro az Z
    refine Pl.MSP (b := true) (by kernel_rfl) (fun W oW => r_ld Tryz.isAgg22 Z rfl ((Blk.ca (Blk.k B51 oW)) 1 _ rfl)) Z rfl rfl ?_; clear Z az; intro az Z
    refine Pl.MSP (b := true) (by kernel_rfl) (fun W oW => r_lenL Tryz.underlying22 Z rfl) Z rfl rfl ?_; clear Z az; intro az Z
    refine Pl.MSP (b := true) (by kernel_rfl) (fun W oW => r_ltL (b := true) Z rfl rfl (decide_eq_true (by omega))) Z rfl rfl ?_; clear Z az; intro az Z
    refine Pl.MSP (b := true) (by kernel_rfl) (fun W oW => r_mv Z rfl) Z rfl rfl ?_; clear Z az; intro az Z
    refine Pl.MSPT (b := true) (by kernel_rfl) Z rfl rfl (fun W oW => r_mv Z rfl) rfl rfl ?_; clear Z az; intro az Z
    refine Pl.MSPT (b := true) (by kernel_rfl) Z rfl rfl (fun W oW => r_ltL (b := true) Z rfl rfl (decide_eq_true (by omega))) rfl rfl ?_; clear Z az; intro az Z
    refine Pl.MSPT (b := true) (by kernel_rfl) Z rfl rfl (fun W oW => r_mv Z rfl) rfl rfl ?_; clear Z az; intro az Z
    refine Pl.MSPF Z rfl rfl (by exact rfl) rfl rfl ?_; clear Z az; intro az Z
    refine Pl.MSPF Z rfl rfl (by exact rfl) rfl rfl ?_; clear Z az; intro az Z
    refine Pl.MSPF Z rfl rfl (by exact rfl) rfl rfl ?_; clear Z az; intro az Z
    refine Pl.MSPF Z rfl rfl (by exact rfl) rfl rfl ?_; clear Z az; intro az Z
    refine Pl.MSPF Z rfl rfl (by exact rfl) rfl rfl ?_; clear Z az; intro az Z
    refine Pl.MSPF Z rfl rfl (by exact rfl) rfl rfl ?_; clear Z az; intro az Z
    refine Pl.MSPF Z rfl rfl (by exact rfl) rfl rfl ?_; clear Z az; intro az Z
    refine Pl.MSPF Z rfl rfl (by exact rfl) rfl rfl ?_; clear Z az; intro az Z
    refine Pl.MSPF Z rfl rfl (by exact rfl) rfl rfl ?_; clear Z az; intro az Z
    refine Pl.MSPF Z rfl rfl (by exact rfl) rfl rfl ?_; clear Z az; intro az Z
    refine Pl.MSPF Z rfl rfl (by exact rfl) rfl rfl ?_; clear Z az; intro az Z
    refine Pl.MSPF Z rfl rfl (by exact rfl) rfl rfl ?_; clear Z az; intro az Z
    refine Pl.MSPF Z rfl rfl (by exact rfl) rfl rfl ?_; clear Z az; intro az Z
    refine Pl.MSPF Z rfl rfl (by exact rfl) rfl rfl ?_; clear Z az; intro az Z
    refine Pl.MSPF Z rfl rfl (by exact rfl) rfl rfl ?_; clear Z az; intro az Z
    refine Pl.MSPF Z rfl rfl (by exact rfl) rfl rfl ?_; clear Z az; intro az Z
    refine Pl.MSPF Z rfl rfl (by exact rfl) rfl rfl ?_; clear Z az; intro az Z
    refine Pl.MSPF Z rfl rfl (by exact rfl) rfl rfl ?_; clear Z az; intro az Z
    refine Pl.MSPF Z rfl rfl (by exact rfl) rfl rfl ?_; clear Z az; intro az Z
    refine Pl.MSPF Z rfl rfl (by exact rfl) rfl rfl ?_; clear Z az; intro az Z
    refine Pl.MSPF Z rfl rfl (by exact rfl) rfl rfl ?_; clear Z az; intro az Z
    refine Pl.MSPT (b := true) (by kernel_rfl) Z rfl rfl (fun W oW => r_pick Z rfl rfl rfl) rfl rfl ?_; clear Z az; intro az Z
    refine Pl.MSP (b := true) (by kernel_rfl) (fun W oW => r_pick Z rfl rfl rfl) Z rfl rfl ?_; clear Z az; intro az Z
    refine Pl.MSP (b := true) (by kernel_rfl) (fun W oW => r_mv Z rfl) Z rfl rfl ?_; clear Z az; intro az Z
    refine Pl.MSPT (b := true) (by kernel_rfl) Z rfl rfl (fun W oW => r_mv Z rfl) rfl rfl ?_; clear Z az; intro az Z
    refine Pl.MSPT (b := true) (by kernel_rfl) Z rfl rfl (fun W oW => r_fa (m' := 1) Tryz.underlying69 rfl Tryz.sizeOf22 rfl Z rfl rfl) rfl rfl ?_; clear Z az; intro az Z
    refine Pl.MSPT (b := true) (by kernel_rfl) Z rfl rfl (fun W oW => r_ld Tryz.isAgg22 Z rfl ((Blk.ca (Blk.k B51 oW)) 1 _ rfl)) rfl rfl ?_; clear Z az; intro az Z
    refine Pl.MSPT (b := true) (by kernel_rfl) Z rfl rfl (fun W oW => r_fa (m' := 3) Tryz.underlying69 rfl Tryz.sizeOf3 rfl Z rfl rfl) rfl rfl ?_; clear Z az; intro az Z
    refine Pl.MSPT (b := true) (by kernel_rfl) Z rfl rfl (fun W oW => r_ld Tryz.isAgg3 Z rfl ((Blk.ca (Blk.k B51 oW)) 3 _ rfl)) rfl rfl ?_; clear Z az; intro az Z
    have hk52 : m33.t < (m33.p).length := by omega
    have O58 : Only NoF w14 w49 := (Only.trans' (o_sg (Only.trans' o21 o41) s46 (size_only o21) (oneF_ge hg43)) o50)
    have h59 := (SliceOf.kp hp38.1 O58 (fun _ _ h => h) (fun _ _ _ _ h => h))
    obtain ⟨m53, hm54, ok55, hA56⟩ := Row.el KN0 h59 hk52
    have E57 : ∀ W, Only NoF w49 W → CA W (eA m33.A 5 (m33.t)) [.int .i64 (m53.h), .int .i64 (m53.n), .int .i64 (m53.d), .slice m53.A (m53.l.length) m53.c, strV (m53.s)] := Row.ce KN0 h59 hm54 rfl
    refine Pl.MSPT (b := true) (by kernel_rfl) Z rfl rfl (fun W oW => r_ia (k := m33.t) (size := 5) Tryz.underlying22 Tryz.sizeOf43 Z rfl rfl rfl hk52 hA56) rfl rfl ?_; clear Z az; intro az Z
    refine Pl.MSPT (b := true) (by kernel_rfl) Z rfl rfl (fun W oW => r_ldA Tryz.isAgg43 Tryz.sizeOf43 Z rfl (E57 _ (Only.trans' (Only.refl NoF w49) oW)) rfl) rfl rfl ?_; clear Z az; intro az Z
    have r61 := (ow_k (ow_only (ow_k r30 o41) s46 (fun k hk => lt_F (oneF_ge hg43) (size_only o21) k (ownF_lt rH k hk))) o50)
    have h60 := own_lenO r61 hHn
    have h62 := SliceOf.pl h60
    have hy63 : SliceOf AllB 4 KH0.R w49 (.slice A5 H.length c6) H := by rw [hHn]; exact h62
    have hq64 := ready_v_ hy63 hAH (by omega) (okN.pl (okN.k ((hOk m33 (List.mem_of_getElem? hm34)).2 _ (List.mem_of_getElem? hm54)) O58))
    rw [hHn] at hq64
    refine Pl.MSGV (v := .bool ((readyN (H.map hm) m53))) Z rfl rfl gd_t rfl rfl (fun hb => rfl) Tryz.call63 (fun hb => hq64) rfl (fun w' o' => ⟨fun _ => o', (Only.trans (Only.refl NoF w49) o' (fun _ h => h.elim))⟩) fun w65 o66 => ?_; clear Z az; intro az Z
    refine Pl.MSP (b := true) (by kernel_rfl) (fun W oW => r_pick Z rfl rfl rfl) Z rfl rfl ?_; clear Z az; intro az Z
    refine wpPl_nil ?_
    refine k48 _ _ ?_
    refine br Z rfl (fun hc67 => ?_) (fun hc67 => ?_)
    ·
     have q68 : (readyN (H.map hm) m53) = true := hc67
     refine wp_region_lit ?_
     refine L (r_mv Z rfl) Z rfl ?_; clear Z az; intro az Z
     refine L (r_as Z rfl) Z rfl ?_; clear Z az; intro az Z
     refine k27 _ _ ?_
     refine wp_region_lit ?_
     have i69 : I64 (((k : Int) + 1)) := by unfold I64; omega
     refine L (r_addI (r := ((k : Int) + 1)) Z rfl rfl rfl i69) Z rfl ?_; clear Z az; intro az Z
     refine L (r_mv Z rfl) Z rfl ?_; clear Z az; intro az Z
     have O70 : Only NoF w14 w65 := (Only.trans' O58 o66)
     exact ⟨_, (by omega), k + 1, (k : Int), rfl, Z.cut ⟨rfl, rfl, rfl, rfl, rfl, rfl, trivial⟩, (by omega), (by rw [b_b hm34 hm54 hbk hc67]; rfl), O70⟩
    ·
     have q71 : (readyN (H.map hm) m53) = false := hc67
     refine wp_skip ?_
     refine k27 _ _ ?_
     refine wp_region_lit ?_
     have i72 : I64 (((k : Int) + 1)) := by unfold I64; omega
     refine L (r_addI (r := ((k : Int) + 1)) Z rfl rfl rfl i72) Z rfl ?_; clear Z az; intro az Z
     refine L (r_mv Z rfl) Z rfl ?_; clear Z az; intro az Z
     have O73 : Only NoF w14 w65 := (Only.trans' O58 o66)
     exact ⟨_, (by omega), k + 1, (-1), rfl, Z.cut ⟨rfl, rfl, rfl, rfl, rfl, rfl, trivial⟩, (by omega), (by rw [b_b hm34 hm54 hbk hc67]; rfl), O73⟩
   ·
    rw [hbk] at hz; change z = (q : Int) at hz; subst hz
    have hbq9 := best_lt hbk; have hqk := hbq9.1
    refine reg_p NoF 1 [41] (.rd 0 (.rd 1 (.rd 2 (.rd 3 (.rd 4 (.rd 5 (.rd 6 (.rd 7 (.rd 8 (.rd 9 (.rd 10 (.rd 11 (.rd 12 (.rd 13 (.rd 14 (.rd 15 (.rd 16 (.rd 17 (.rd 18 (.rd 19 (.rd 20 (.rd 21 (.rd 22 (.rd 23 (.rd 24 (.rd 25 (.rd 26 (.rd 27 (.rd 28 (.rd 29 (.rd 30 (.rd 31 (.rd 32 (.rd 33 (.rd 34 (.rd 35 (.rd 36 (.rd 37 (.rd 38 (.rd 39 (.rd 40 (.ex 41 (.rd 42 .nil))))))))))))))))))))))))))))))))))))))))))) (by kernel_rfl) (by kernel_rfl) (fun _ _ _ _ _ h => h) fun w74 o75 => ?_
    have B76 := (Blk.k B47 o75)
    refine Pl.MSP (b := true) (by kernel_rfl) (fun W oW => r_fa (m' := 3) Tryz.underlying69 rfl Tryz.sizeOf3 rfl Z rfl rfl) Z rfl rfl ?_; clear Z az; intro az Z
    refine Pl.MSP (b := true) (by kernel_rfl) (fun W oW => r_ld Tryz.isAgg3 Z rfl ((Blk.ca (Blk.k B76 oW)) 3 _ rfl)) Z rfl rfl ?_; clear Z az; intro az Z
    refine Pl.MSP (b := true) (by kernel_rfl) (fun W oW => r_fa (m' := 1) Tryz.underlying69 rfl Tryz.sizeOf22 rfl Z rfl rfl) Z rfl rfl ?_; clear Z az; intro az Z
    refine Pl.MSP (b := true) (by kernel_rfl) (fun W oW => r_ld Tryz.isAgg22 Z rfl ((Blk.ca (Blk.k B76 oW)) 1 _ rfl)) Z rfl rfl ?_; clear Z az; intro az Z
    refine Pl.MSP (b := true) (by kernel_rfl) (fun W oW => r_lenL Tryz.underlying22 Z rfl) Z rfl rfl ?_; clear Z az; intro az Z
    refine Pl.MSP (b := true) (by kernel_rfl) (fun W oW => r_ltL (b := true) Z rfl rfl (decide_eq_true (by omega))) Z rfl rfl ?_; clear Z az; intro az Z
    refine Pl.MSP (b := true) (by kernel_rfl) (fun W oW => r_mv Z rfl) Z rfl rfl ?_; clear Z az; intro az Z
    refine Pl.MSPT (b := true) (by kernel_rfl) Z rfl rfl (fun W oW => r_mv Z rfl) rfl rfl ?_; clear Z az; intro az Z
    refine Pl.MSPT (b := true) (by kernel_rfl) Z rfl rfl (fun W oW => r_ltL (b := false) Z rfl rfl (decide_eq_false (by omega))) rfl rfl ?_; clear Z az; intro az Z
    refine Pl.MSPT (b := true) (by kernel_rfl) Z rfl rfl (fun W oW => r_mv Z rfl) rfl rfl ?_; clear Z az; intro az Z
    refine Pl.MSPT (b := true) (by kernel_rfl) Z rfl rfl (fun W oW => r_fa (m' := 1) Tryz.underlying69 rfl Tryz.sizeOf22 rfl Z rfl rfl) rfl rfl ?_; clear Z az; intro az Z
    refine Pl.MSPT (b := true) (by kernel_rfl) Z rfl rfl (fun W oW => r_ld Tryz.isAgg22 Z rfl ((Blk.ca (Blk.k B76 oW)) 1 _ rfl)) rfl rfl ?_; clear Z az; intro az Z
    refine Pl.MSPT (b := true) (by kernel_rfl) Z rfl rfl (fun W oW => r_fa (m' := 3) Tryz.underlying69 rfl Tryz.sizeOf3 rfl Z rfl rfl) rfl rfl ?_; clear Z az; intro az Z
    refine Pl.MSPT (b := true) (by kernel_rfl) Z rfl rfl (fun W oW => r_ld Tryz.isAgg3 Z rfl ((Blk.ca (Blk.k B76 oW)) 3 _ rfl)) rfl rfl ?_; clear Z az; intro az Z
    have hk77 : m33.t < (m33.p).length := by omega
    have O83 : Only NoF w14 w74 := (Only.trans' (o_sg (Only.trans' o21 o41) s46 (size_only o21) (oneF_ge hg43)) o75)
    have h84 := (SliceOf.kp hp38.1 O83 (fun _ _ h => h) (fun _ _ _ _ h => h))
    obtain ⟨m78, hm79, ok80, hA81⟩ := Row.el KN0 h84 hk77
    have E82 : ∀ W, Only NoF w74 W → CA W (eA m33.A 5 (m33.t)) [.int .i64 (m78.h), .int .i64 (m78.n), .int .i64 (m78.d), .slice m78.A (m78.l.length) m78.c, strV (m78.s)] := Row.ce KN0 h84 hm79 rfl
    refine Pl.MSPT (b := true) (by kernel_rfl) Z rfl rfl (fun W oW => r_ia (k := m33.t) (size := 5) Tryz.underlying22 Tryz.sizeOf43 Z rfl rfl rfl hk77 hA81) rfl rfl ?_; clear Z az; intro az Z
    refine Pl.MSPT (b := true) (by kernel_rfl) Z rfl rfl (fun W oW => r_fa (m' := 2) Tryz.underlying43 rfl Tryz.sizeOf3 rfl Z rfl rfl) rfl rfl ?_; clear Z az; intro az Z
    refine Pl.MSPT (b := true) (by kernel_rfl) Z rfl rfl (fun W oW => r_ld Tryz.isAgg3 Z rfl ((E82 _ (Only.trans' (Only.refl NoF w74) oW)) 2 _ rfl)) rfl rfl ?_; clear Z az; intro az Z
    refine Pl.MSPT (b := true) (by kernel_rfl) Z rfl rfl (fun W oW => r_mv Z rfl) rfl rfl ?_; clear Z az; intro az Z
    refine Pl.MSPT (b := true) (by kernel_rfl) Z rfl rfl (fun W oW => r_mv Z rfl) rfl rfl ?_; clear Z az; intro az Z
    have r86 := (ow_k (ow_only (ow_k r30 o41) s46 (fun k hk => lt_F (oneF_ge hg43) (size_only o21) k (ownF_lt rH k hk))) o75)
    have h85 := own_lenO r86 hHn
    have hk87 : q < H7.length := by omega
    have hk88 : q < H.length := by omega
    obtain ⟨m89, hm90, ok91, hA92⟩ := Row.el KH0 h85 hk88
    have E93 : ∀ W, Only NoF w74 W → CA W (eA A5 4 (q)) [.int .i64 (m89.h), .slice m89.A (m89.p.length) m89.c, .bool (m89.f), .int .i64 ((m89.t : Int))] := Row.ce KH0 h85 hm90 rfl
    have hp94 := hOk m89 (List.mem_of_getElem? hm90)
    have hqt := hbq9.2 _ hm90
    have hl95 := SliceOf.len hp94.1; unfold maxLen at hl95
    refine Pl.MSPT (b := true) (by kernel_rfl) Z rfl rfl (fun W oW => r_ia (k := q) (size := 4) Tryz.underlying66 Tryz.sizeOf69 Z rfl rfl rfl hk87 hA92) rfl rfl ?_; clear Z az; intro az Z
    refine Pl.MSPT (b := true) (by kernel_rfl) Z rfl rfl (fun W oW => r_fa (m' := 1) Tryz.underlying69 rfl Tryz.sizeOf22 rfl Z rfl rfl) rfl rfl ?_; clear Z az; intro az Z
    refine Pl.MSPT (b := true) (by kernel_rfl) Z rfl rfl (fun W oW => r_ld Tryz.isAgg22 Z rfl ((E93 _ (Only.trans' (Only.refl NoF w74) oW)) 1 _ rfl)) rfl rfl ?_; clear Z az; intro az Z
    refine Pl.MSPT (b := true) (by kernel_rfl) Z rfl rfl (fun W oW => r_mv Z rfl) rfl rfl ?_; clear Z az; intro az Z
    refine Pl.MSPT (b := true) (by kernel_rfl) Z rfl rfl (fun W oW => r_mv Z rfl) rfl rfl ?_; clear Z az; intro az Z
    refine Pl.MSPT (b := true) (by kernel_rfl) Z rfl rfl (fun W oW => r_ia (k := q) (size := 4) Tryz.underlying66 Tryz.sizeOf69 Z rfl rfl rfl hk87 hA92) rfl rfl ?_; clear Z az; intro az Z
    refine Pl.MSPT (b := true) (by kernel_rfl) Z rfl rfl (fun W oW => r_fa (m' := 3) Tryz.underlying69 rfl Tryz.sizeOf3 rfl Z rfl rfl) rfl rfl ?_; clear Z az; intro az Z
    refine Pl.MSPT (b := true) (by kernel_rfl) Z rfl rfl (fun W oW => r_ld Tryz.isAgg3 Z rfl ((E93 _ (Only.trans' (Only.refl NoF w74) oW)) 3 _ rfl)) rfl rfl ?_; clear Z az; intro az Z
    have hk96 : m89.t < (m89.p).length := by omega
    have h102 := (SliceOf.kp hp94.1 O83 (fun _ _ h => h) (fun _ _ _ _ h => h))
    obtain ⟨m97, hm98, ok99, hA100⟩ := Row.el KN0 h102 hk96
    have E101 : ∀ W, Only NoF w74 W → CA W (eA m89.A 5 (m89.t)) [.int .i64 (m97.h), .int .i64 (m97.n), .int .i64 (m97.d), .slice m97.A (m97.l.length) m97.c, strV (m97.s)] := Row.ce KN0 h102 hm98 rfl
    refine Pl.MSPT (b := true) (by kernel_rfl) Z rfl rfl (fun W oW => r_ia (k := m89.t) (size := 5) Tryz.underlying22 Tryz.sizeOf43 Z rfl rfl rfl hk96 hA100) rfl rfl ?_; clear Z az; intro az Z
    refine Pl.MSPT (b := true) (by kernel_rfl) Z rfl rfl (fun W oW => r_fa (m' := 2) Tryz.underlying43 rfl Tryz.sizeOf3 rfl Z rfl rfl) rfl rfl ?_; clear Z az; intro az Z
    refine Pl.MSPT (b := true) (by kernel_rfl) Z rfl rfl (fun W oW => r_ld Tryz.isAgg3 Z rfl ((E101 _ (Only.trans' (Only.refl NoF w74) oW)) 2 _ rfl)) rfl rfl ?_; clear Z az; intro az Z
    refine Pl.MSPT (b := true) (by kernel_rfl) Z rfl rfl (fun W oW => r_ltI Z rfl rfl) rfl rfl ?_; clear Z az; intro az Z
    refine Pl.MSPT (b := true) (by kernel_rfl) Z rfl rfl (fun W oW => r_pick Z rfl rfl rfl) rfl rfl ?_; clear Z az; intro az Z
    refine Pl.MSP (b := true) (by kernel_rfl) (fun W oW => r_pick Z rfl rfl rfl) Z rfl rfl ?_; clear Z az; intro az Z
    refine Pl.MSP (b := true) (by kernel_rfl) (fun W oW => r_mv Z rfl) Z rfl rfl ?_; clear Z az; intro az Z
    refine Pl.MSPG (b := true) (by kernel_rfl) Z rfl rfl gd_t (fun hb W oW => r_mv Z rfl) rfl rfl ?_; clear Z az; intro az Z
    refine Pl.MSPG (b := true) (by kernel_rfl) Z rfl rfl gd_t (fun hb W oW => r_fa (m' := 1) Tryz.underlying69 rfl Tryz.sizeOf22 rfl Z rfl rfl) rfl rfl ?_; clear Z az; intro az Z
    refine Pl.MSPG (b := true) (by kernel_rfl) Z rfl rfl gd_t (fun hb W oW => r_ld Tryz.isAgg22 Z (evg hb rfl) ((Blk.ca (Blk.k B76 oW)) 1 _ rfl)) rfl rfl ?_; clear Z az; intro az Z
    refine Pl.MSPG (b := true) (by kernel_rfl) Z rfl rfl gd_t (fun hb W oW => r_fa (m' := 3) Tryz.underlying69 rfl Tryz.sizeOf3 rfl Z rfl rfl) rfl rfl ?_; clear Z az; intro az Z
    refine Pl.MSPG (b := true) (by kernel_rfl) Z rfl rfl gd_t (fun hb W oW => r_ld Tryz.isAgg3 Z (evg hb rfl) ((Blk.ca (Blk.k B76 oW)) 3 _ rfl)) rfl rfl ?_; clear Z az; intro az Z
    refine Pl.MSPG (b := true) (by kernel_rfl) Z rfl rfl gd_t (fun hb W oW => r_ia (k := m33.t) (size := 5) Tryz.underlying22 Tryz.sizeOf43 Z (evg hb rfl) (evg hb rfl) rfl hk77 hA81) rfl rfl ?_; clear Z az; intro az Z
    refine Pl.MSPG (b := true) (by kernel_rfl) Z rfl rfl gd_t (fun hb W oW => r_ldA Tryz.isAgg43 Tryz.sizeOf43 Z (evg hb rfl) (E82 _ (Only.trans' (Only.refl NoF w74) oW)) rfl) rfl rfl ?_; clear Z az; intro az Z
    have h103 := SliceOf.pl h85
    have hy104 : SliceOf AllB 4 KH0.R w74 (.slice A5 H.length c6) H := by rw [hHn]; exact h103
    have hq105 := ready_v_ hy104 hAH (by omega) (okN.pl (okN.k ((hOk m33 (List.mem_of_getElem? hm34)).2 _ (List.mem_of_getElem? hm79)) O83))
    rw [hHn] at hq105
    refine Pl.MSGV (v := .bool ((readyN (H.map hm) m78))) Z rfl rfl gd_t rfl rfl (fun hb => (evs_c (evg hb rfl) (evs_c (evg hb rfl) rfl))) Tryz.call63 (fun hb => hq105) rfl (fun w' o' => ⟨fun _ => o', (Only.trans (Only.refl NoF w74) o' (fun _ h => h.elim))⟩) fun w106 o107 => ?_; clear Z az; intro az Z
    refine Pl.MSP (b := true) (by kernel_rfl) (fun W oW => r_and Z rfl rfl rfl) Z rfl rfl ?_; clear Z az; intro az Z
    refine wpPl_nil ?_
    refine k48 _ _ ?_
    refine br Z rfl (fun hc108 => ?_) (fun hc108 => ?_)
    ·
     have p109 := of_decide_eq_true (and_t hc108).1
     have q110 : (readyN (H.map hm) m78) = true := (and_t hc108).2
     refine wp_region_lit ?_
     refine L (r_mv Z rfl) Z rfl ?_; clear Z az; intro az Z
     refine L (r_as Z rfl) Z rfl ?_; clear Z az; intro az Z
     refine k27 _ _ ?_
     refine wp_region_lit ?_
     have i111 : I64 (((k : Int) + 1)) := by unfold I64; omega
     refine L (r_addI (r := ((k : Int) + 1)) Z rfl rfl rfl i111) Z rfl ?_; clear Z az; intro az Z
     refine L (r_mv Z rfl) Z rfl ?_; clear Z az; intro az Z
     have O112 : Only NoF w14 w106 := (Only.trans' O83 o107)
     exact ⟨_, (by omega), k + 1, (k : Int), rfl, Z.cut ⟨rfl, rfl, rfl, rfl, rfl, rfl, trivial⟩, (by omega), (by rw [b_c hm34 hm79 hbk hm90 hm98 hc108]; rfl), O112⟩
    ·
     have d113 := hc108
     refine wp_skip ?_
     refine k27 _ _ ?_
     refine wp_region_lit ?_
     have i114 : I64 (((k : Int) + 1)) := by unfold I64; omega
     refine L (r_addI (r := ((k : Int) + 1)) Z rfl rfl rfl i114) Z rfl ?_; clear Z az; intro az Z
     refine L (r_mv Z rfl) Z rfl ?_; clear Z az; intro az Z
     have O115 : Only NoF w14 w106 := (Only.trans' O83 o107)
     exact ⟨_, (by omega), k + 1, (q : Int), rfl, Z.cut ⟨rfl, rfl, rfl, rfl, rfl, rfl, trivial⟩, (by omega), (by rw [b_c hm34 hm79 hbk hm90 hm98 hc108]; rfl), O115⟩
  ·
   refine reg_p NoF 1 [41] (.rd 0 (.rd 1 (.rd 2 (.rd 3 (.rd 4 (.rd 5 (.rd 6 (.rd 7 (.rd 8 (.rd 9 (.rd 10 (.rd 11 (.rd 12 (.rd 13 (.rd 14 (.rd 15 (.rd 16 (.rd 17 (.rd 18 (.rd 19 (.rd 20 (.rd 21 (.rd 22 (.rd 23 (.rd 24 (.rd 25 (.rd 26 (.rd 27 (.rd 28 (.rd 29 (.rd 30 (.rd 31 (.rd 32 (.rd 33 (.rd 34 (.rd 35 (.rd 36 (.rd 37 (.rd 38 (.rd 39 (.rd 40 (.ex 41 (.rd 42 .nil))))))))))))))))))))))))))))))))))))))))))) (by kernel_rfl) (by kernel_rfl) (fun _ _ _ _ _ h => h) fun w116 o117 => ?_
   have B118 := (Blk.k B47 o117)
   refine Pl.MSP (b := true) (by kernel_rfl) (fun W oW => r_fa (m' := 3) Tryz.underlying69 rfl Tryz.sizeOf3 rfl Z rfl rfl) Z rfl rfl ?_; clear Z az; intro az Z
   refine Pl.MSP (b := true) (by kernel_rfl) (fun W oW => r_ld Tryz.isAgg3 Z rfl ((Blk.ca (Blk.k B118 oW)) 3 _ rfl)) Z rfl rfl ?_; clear Z az; intro az Z
   refine Pl.MSP (b := true) (by kernel_rfl) (fun W oW => r_fa (m' := 1) Tryz.underlying69 rfl Tryz.sizeOf22 rfl Z rfl rfl) Z rfl rfl ?_; clear Z az; intro az Z
   refine Pl.MSP (b := true) (by kernel_rfl) (fun W oW => r_ld Tryz.isAgg22 Z rfl ((Blk.ca (Blk.k B118 oW)) 1 _ rfl)) Z rfl rfl ?_; clear Z az; intro az Z
   refine Pl.MSP (b := true) (by kernel_rfl) (fun W oW => r_lenL Tryz.underlying22 Z rfl) Z rfl rfl ?_; clear Z az; intro az Z
   refine Pl.MSP (b := true) (by kernel_rfl) (fun W oW => r_ltL (b := false) Z rfl rfl (decide_eq_false (by omega))) Z rfl rfl ?_; clear Z az; intro az Z
   refine Pl.MSP (b := true) (by kernel_rfl) (fun W oW => r_mv Z rfl) Z rfl rfl ?_; clear Z az; intro az Z
   refine Pl.MSPF Z rfl rfl (by exact rfl) rfl rfl ?_; clear Z az; intro az Z
   refine Pl.MSPF Z rfl rfl (by exact rfl) rfl rfl ?_; clear Z az; intro az Z
   refine Pl.MSPF Z rfl rfl (by exact rfl) rfl rfl ?_; clear Z az; intro az Z
   refine Pl.MSPF Z rfl rfl (by exact rfl) rfl rfl ?_; clear Z az; intro az Z
   refine Pl.MSPF Z rfl rfl (by exact rfl) rfl rfl ?_; clear Z az; intro az Z
   refine Pl.MSPF Z rfl rfl (by exact rfl) rfl rfl ?_; clear Z az; intro az Z
   refine Pl.MSPF Z rfl rfl (by exact rfl) rfl rfl ?_; clear Z az; intro az Z
   refine Pl.MSPF Z rfl rfl (by exact rfl) rfl rfl ?_; clear Z az; intro az Z
   refine Pl.MSPF Z rfl rfl (by exact rfl) rfl rfl ?_; clear Z az; intro az Z
   refine Pl.MSPF Z rfl rfl (by exact rfl) rfl rfl ?_; clear Z az; intro az Z
   refine Pl.MSPF Z rfl rfl (by exact rfl) rfl rfl ?_; clear Z az; intro az Z
   refine Pl.MSPF Z rfl rfl (by exact rfl) rfl rfl ?_; clear Z az; intro az Z
   refine Pl.MSPF Z rfl rfl (by exact rfl) rfl rfl ?_; clear Z az; intro az Z
   refine Pl.MSPF Z rfl rfl (by exact rfl) rfl rfl ?_; clear Z az; intro az Z
   refine Pl.MSPF Z rfl rfl (by exact rfl) rfl rfl ?_; clear Z az; intro az Z
   refine Pl.MSPF Z rfl rfl (by exact rfl) rfl rfl ?_; clear Z az; intro az Z
   refine Pl.MSPF Z rfl rfl (by exact rfl) rfl rfl ?_; clear Z az; intro az Z
   refine Pl.MSPF Z rfl rfl (by exact rfl) rfl rfl ?_; clear Z az; intro az Z
   refine Pl.MSPF Z rfl rfl (by exact rfl) rfl rfl ?_; clear Z az; intro az Z
   refine Pl.MSPF Z rfl rfl (by exact rfl) rfl rfl ?_; clear Z az; intro az Z
   refine Pl.MSPF Z rfl rfl (by exact rfl) rfl rfl ?_; clear Z az; intro az Z
   refine Pl.MSPF Z rfl rfl (by exact rfl) rfl rfl ?_; clear Z az; intro az Z
   refine Pl.MSPF Z rfl rfl (by exact rfl) rfl rfl ?_; clear Z az; intro az Z
   refine Pl.MSPF Z rfl rfl (by exact rfl) rfl rfl ?_; clear Z az; intro az Z
   refine Pl.MSPF Z rfl rfl (by exact rfl) rfl rfl ?_; clear Z az; intro az Z
   refine Pl.MSP (b := true) (by kernel_rfl) (fun W oW => r_pick Z rfl rfl rfl) Z rfl rfl ?_; clear Z az; intro az Z
   refine Pl.MSP (b := true) (by kernel_rfl) (fun W oW => r_mv Z rfl) Z rfl rfl ?_; clear Z az; intro az Z
   refine Pl.MSPF Z rfl rfl (by exact rfl) rfl rfl ?_; clear Z az; intro az Z
   refine Pl.MSPF Z rfl rfl (by exact rfl) rfl rfl ?_; clear Z az; intro az Z
   refine Pl.MSPF Z rfl rfl (by exact rfl) rfl rfl ?_; clear Z az; intro az Z
   refine Pl.MSPF Z rfl rfl (by exact rfl) rfl rfl ?_; clear Z az; intro az Z
   refine Pl.MSPF Z rfl rfl (by exact rfl) rfl rfl ?_; clear Z az; intro az Z
   refine Pl.MSPF Z rfl rfl (by exact rfl) rfl rfl ?_; clear Z az; intro az Z
   refine Pl.MSPF Z rfl rfl (by exact rfl) rfl rfl ?_; clear Z az; intro az Z
   refine Pl.MXF Z rfl rfl (by exact rfl) rfl rfl ⟨fun _ => (Only.refl _ _), (Only.refl NoF w116)⟩ ?_; clear Z az; intro az Z
   refine Pl.MSP (b := true) (by kernel_rfl) (fun W oW => r_pick Z rfl rfl rfl) Z rfl rfl ?_; clear Z az; intro az Z
   refine wpPl_nil ?_
   refine k48 _ _ ?_
   refine br_false Z rfl ?_
   refine wp_skip ?_
   refine k27 _ _ ?_
   refine wp_region_lit ?_
   have i119 : I64 (((k : Int) + 1)) := by unfold I64; omega
   refine L (r_addI (r := ((k : Int) + 1)) Z rfl rfl rfl i119) Z rfl ?_; clear Z az; intro az Z
   refine L (r_mv Z rfl) Z rfl ?_; clear Z az; intro az Z
   have O120 : Only NoF w14 w116 := (Only.trans' (o_sg (Only.trans' o21 o41) s46 (size_only o21) (oneF_ge hg43)) o117)
   exact ⟨_, (by omega), k + 1, z, rfl, Z.cut ⟨rfl, rfl, rfl, rfl, rfl, rfl, trivial⟩, (by omega), (by rw [b_a hm34 ht]; exact hz), O120⟩
 ·
  have p121 := of_decide_eq_false hc25
  have hkl : k = H.length := by omega
  rw [hkl] at hz
  refine wp_exit ?_
  refine th_exit ?_
  refine th_exit ?_
  refine ib_hit ?_
  refine k18 _ _ (wp_seq_k fun _ k122 => ?_)
  refine wp_seq_k fun _ k123 => wp_region_lit ?_
  refine L (r_mv Z rfl) Z rfl ?_; clear Z az; intro az Z
  refine L (r_ltI Z rfl rfl) Z rfl ?_; clear Z az; intro az Z
  refine k123 _ _ ?_
  refine br Z rfl (fun hc124 => ?_) (fun hc124 => ?_)
  ·
   have p125 := of_decide_eq_true hc124
   have hbn := bst_none hz (of_decide_eq_true hc124)
   refine wp_seq_k fun _ k126 => wp_region_lit ?_
   refine L (r_mv Z rfl) Z rfl ?_; clear Z az; intro az Z
   refine L (r_mv Z rfl) Z rfl ?_; clear Z az; intro az Z
   refine L (r_as Z rfl) Z rfl ?_; clear Z az; intro az Z
   refine L (r_as Z rfl) Z rfl ?_; clear Z az; intro az Z
   refine k126 _ _ ?_
   refine wp_ret ?_
   show bodyPost _ _ _ .ret _ _
   refine ret_of (vs := [.slice A5 (H7.length) c6, .slice Ao (O.length) co]) Z Tryz.results41 ⟨rfl, rfl, trivial⟩ ?_
   have r127 := (ow_k rO o21)
   have r129 := (ow_k rH o21)
   have h128 := own_lenO r129 hHn
   have h130 := SliceOf.pl h128
   have O131 : Only NoF w w20 := (Only.trans' o15 o21)
   exact ⟨A5, c6, H, Ao, co, O, by (rw [hHn]) <;> rfl, by rw [← hrun, run_end (by rw [List.length_map]; exact hbn)], by rw [hHn]; exact h130, ⟨Row.own KN0 r127 (fun _ _ => trivial), OkNs.sup (OkNs.k hN o21) (fun k hk => hk.1.1)⟩, O131⟩
  ·
   have p132 := of_decide_eq_false hc124
   obtain ⟨q, hbq, hzq⟩ := bst_some hz (of_decide_eq_false hc124)
   subst hzq
   have hbl := best_lt hbq; have hqk := hbl.1
   refine wp_skip ?_
   refine k122 _ _ (wp_seq_k fun _ k133 => ?_)
   refine reg_p (ownF (.slice Ao (O.length) co)) 1 [13, 14] (.rd 0 (.rd 1 (.rd 2 (.rd 3 (.rd 4 (.rd 5 (.rd 6 (.rd 7 (.rd 8 (.rd 9 (.rd 10 (.rd 11 (.rd 12 (.ex 13 (.ex 14 (.rd 15 .nil)))))))))))))))) (by kernel_rfl) (by kernel_rfl) (fun _ _ _ _ _ h => h) fun w134 o135 => ?_
   refine Pl.MSP (b := true) (by kernel_rfl) (fun W oW => r_mv Z rfl) Z rfl rfl ?_; clear Z az; intro az Z
   refine Pl.MSP (b := false) (by kernel_rfl) (fun W oW => r_mv Z rfl) Z rfl rfl ?_; clear Z az; intro az Z
   refine Pl.MSP (b := false) (by kernel_rfl) (fun W oW => r_mv Z rfl) Z rfl rfl ?_; clear Z az; intro az Z
   have r137 := (ow_k (ow_k rH o21) o135)
   have h136 := own_lenO r137 hHn
   have hk138 : q < H7.length := by omega
   have hk139 : q < H.length := by omega
   obtain ⟨m140, hm141, ok142, hA143⟩ := Row.el KH0 h136 hk139
   have E144 : ∀ W, Only NoF w134 W → CA W (eA A5 4 (q)) [.int .i64 (m140.h), .slice m140.A (m140.p.length) m140.c, .bool (m140.f), .int .i64 ((m140.t : Int))] := Row.ce KH0 h136 hm141 rfl
   have hp145 := hOk m140 (List.mem_of_getElem? hm141)
   have hqt := hbl.2 _ hm141
   have hl146 := SliceOf.len hp145.1; unfold maxLen at hl146
   refine Pl.MSP (b := false) (by kernel_rfl) (fun W oW => r_ia (k := q) (size := 4) Tryz.underlying66 Tryz.sizeOf69 Z rfl rfl rfl hk138 hA143) Z rfl rfl ?_; clear Z az; intro az Z
   refine Pl.MSP (b := false) (by kernel_rfl) (fun W oW => r_fa (m' := 1) Tryz.underlying69 rfl Tryz.sizeOf22 rfl Z rfl rfl) Z rfl rfl ?_; clear Z az; intro az Z
   have r147 := (ow_k (ow_k rO o21) o135)
   refine Pl.MSP (b := false) (by kernel_rfl) (fun W oW => r_ld Tryz.isAgg22 Z rfl ((Row.ce KH0 (SliceOf.kp h136 oW (ow_ne r137 r147 (by decide)) (fun _ _ _ _ h => h)) hm141 rfl _ (Only.refl NoF _)) 1 _ rfl)) Z rfl rfl ?_; clear Z az; intro az Z
   refine Pl.MSP (b := false) (by kernel_rfl) (fun W oW => r_mv Z rfl) Z rfl rfl ?_; clear Z az; intro az Z
   refine Pl.MSP (b := false) (by kernel_rfl) (fun W oW => r_mv Z rfl) Z rfl rfl ?_; clear Z az; intro az Z
   refine Pl.MSP (b := false) (by kernel_rfl) (fun W oW => r_ia (k := q) (size := 4) Tryz.underlying66 Tryz.sizeOf69 Z rfl rfl rfl hk138 hA143) Z rfl rfl ?_; clear Z az; intro az Z
   refine Pl.MSP (b := false) (by kernel_rfl) (fun W oW => r_fa (m' := 3) Tryz.underlying69 rfl Tryz.sizeOf3 rfl Z rfl rfl) Z rfl rfl ?_; clear Z az; intro az Z
   refine Pl.MSP (b := false) (by kernel_rfl) (fun W oW => r_ld Tryz.isAgg3 Z rfl ((Row.ce KH0 (SliceOf.kp h136 oW (ow_ne r137 r147 (by decide)) (fun _ _ _ _ h => h)) hm141 rfl _ (Only.refl NoF _)) 3 _ rfl)) Z rfl rfl ?_; clear Z az; intro az Z
   have hk148 : m140.t < (m140.p).length := by omega
   have O154 : Only NoF w14 w134 := (Only.trans' o21 o135)
   have h155 := (SliceOf.kp hp145.1 O154 (fun _ _ h => h) (fun _ _ _ _ h => h))
   obtain ⟨m149, hm150, ok151, hA152⟩ := Row.el KN0 h155 hk148
   have E153 : ∀ W, Only NoF w134 W → CA W (eA m140.A 5 (m140.t)) [.int .i64 (m149.h), .int .i64 (m149.n), .int .i64 (m149.d), .slice m149.A (m149.l.length) m149.c, strV (m149.s)] := Row.ce KN0 h155 hm150 rfl
   refine Pl.MSP (b := false) (by kernel_rfl) (fun W oW => r_ia (k := m140.t) (size := 5) Tryz.underlying22 Tryz.sizeOf43 Z rfl rfl rfl hk148 hA152) Z rfl rfl ?_; clear Z az; intro az Z
   refine Pl.MSP (b := true) (by kernel_rfl) (fun W oW => r_ldA Tryz.isAgg43 Tryz.sizeOf43 Z rfl (E153 _ (Only.trans' (Only.refl NoF w134) oW)) rfl) Z rfl rfl ?_; clear Z az; intro az Z
   obtain ⟨A156, w157, hw, hA, r158, o159⟩ := Row.made (w := w134) KN0 (e := 43) ([m149] : List NM) (by simp only [List.length_cons, List.length_nil]; unfold maxLen; omega)
   refine Pl.MD (r_bs (z := .agg #[.int .i64 (0), .int .i64 (0), .int .i64 (0), .slice none (0) 0, strV ([])]) (size := 5) (vs := [(0, .agg #[.int .i64 (m149.h), .int .i64 (m149.n), .int .i64 (m149.d), .slice m149.A (m149.l.length) m149.c, strV (m149.s)])]) (cs := List.flatMap KN0.cells [m149]) Tryz.underlying22 Tryz.sizeOf43 Tryz.zeroValue43 rfl (Fr.evalps Z rfl) (by kernel_rfl)) Z rfl rfl ?_ ?_
   · rw [← hw]; exact ⟨fun _ => o159, (Only.trans (Only.refl (ownF (.slice Ao (O.length) co)) w134) o159 (fun _ h => h.elim))⟩
   rw [← hw, ← hA]; clear Z az; intro az Z
   clear hw hA
   have ok160 : ∀ zq ∈ ([m149] : List NM), KN0.ok zq := by intro zq hx; simp only [List.mem_cons, List.not_mem_nil, or_false] at hx; rcases hx with rfl <;> first | exact trivial
   have r161 := (ow_k r147 o159)
   have h162 := SliceOf.pl (Row.own KN0 r158 ok160)
   have hb170 : (List.length (O) + List.length ([m149])) * 64 ≤ 140737488355328 := by (simp only [List.length_append, List.length_cons, List.length_nil]; omega)
   have O171 : Only NoF w w157 := (Only.trans' (Only.trans' (Only.trans' o15 o21) o135) o159)
   obtain ⟨A163, c164, w165, hr166, r167, o168, al169⟩ := Row.app (P := Tryz.prog) (l := O) (l2 := [m149]) KN0 elemNote r161 h162 hb170 (by unfold maxLen; omega) (size_only O171)
   refine Pl.MD (r_app hr166 Z rfl rfl) Z rfl rfl ?_ ?_
   · exact ⟨fun h => absurd h (by decide), (Only.trans (Only.trans (Only.refl (ownF (.slice Ao (O.length) co)) w134) o159 (fun _ h => h.elim)) o168 (fun _ h => .inl h))⟩
   clear Z az; intro az Z
   have ok172 : ∀ zq ∈ (O ++ [m149]), KN0.ok zq := (fun x hx => (List.mem_append.1 hx).elim ((fun _ _ => trivial) x) ((Row.oks KN0 h162) x))
   have h173 := Row.own KN0 r167 ok172
   refine Pl.MSP (b := false) (by kernel_rfl) (fun W oW => r_as Z rfl) Z rfl rfl ?_; clear Z az; intro az Z
   refine wpPl_nil ?_
   refine k133 _ _ ?_
   refine wp_region_lit ?_
   refine L (r_mv Z rfl) Z rfl ?_; clear Z az; intro az Z
   refine L (r_mv Z rfl) Z rfl ?_; clear Z az; intro az Z
   have r175 := (ow_only (ow_k r137 o159) o168 (ow_ne (ow_k r137 o159) r161 (by decide)))
   have h174 := own_lenO r175 hHn
   have h177 := SliceOf.pl h174
   have E176 := Row.ce KH0 h177 hm141 rfl
   refine L (r_ia (k := q) (size := 4) Tryz.underlying66 Tryz.sizeOf69 Z rfl rfl rfl hk138 hA143) Z rfl ?_; clear Z az; intro az Z
   refine L (r_fa (m' := 3) Tryz.underlying69 rfl Tryz.sizeOf3 rfl Z rfl rfl) Z rfl ?_; clear Z az; intro az Z
   refine L (r_ld Tryz.isAgg3 Z rfl ((E176 _ (Only.refl NoF w165)) 3 _ rfl)) Z rfl ?_; clear Z az; intro az Z
   have i178 : I64 (((m140.t : Int) + 1)) := by unfold I64; omega
   refine L (r_addI (r := ((m140.t : Int) + 1)) Z rfl rfl rfl i178) Z rfl ?_; clear Z az; intro az Z
   refine L (r_ia (k := q) (size := 4) Tryz.underlying66 Tryz.sizeOf69 Z rfl rfl rfl hk138 hA143) Z rfl ?_; clear Z az; intro az Z
   refine L (r_fa (m' := 3) Tryz.underlying69 rfl Tryz.sizeOf3 rfl Z rfl rfl) Z rfl ?_; clear Z az; intro az Z
   refine LStF (size := 4) (k := q) (j := 3) Tryz.sizeOf3 Z rfl rfl rfl rfl ⟨rfl, trivial⟩ r175 (by omega) (by decide) fun w179 o180 r181 => ?_
   have r182 : w179.ownsRow w.heap.size 69 4 (.slice A5 H7.length c6) H7.length (List.flatMap KH0.cells (H.set q ⟨m140.h, m140.A, m140.p, m140.c, m140.f, m140.t + 1⟩)) := by rw [← flat_taken hm141]; exact r181
   have hrg := rest_goH hm141 hqt
   have hT183 := OkHs.set ((OkHs.only (OkHs.only (OkHs.k (OkHs.k (OkHs.k hOk o21) o135) o159) o168 (fun k hk hF => absurd hk.2 (Nat.not_lt.2 (hsep k hF)))) o180 (fun k hk => hk.1.2))) hm141 (t := m140.t + 1)
   have hT184 := (OkNs.only (OkNs.only (OkNs.k (OkNs.k (OkNs.k (OkNs.app hN ((hOk m140 (List.mem_of_getElem? hm141)).2 _ (List.mem_of_getElem? hm150))) o21) o135) o159) o168 (fun k hk hF => absurd hk.2 (Nat.not_lt.2 (hsep k hF)))) o180 (fun k hk => hk.1.2))
   have O186 : Only NoF w14 w157 := (Only.trans' O154 o159)
   have hT185 : ∀ k, ownF (.slice A163 (((O ++ [m149])).length) c164) k → w3.heap.size ≤ k := fun k h => (own_alt al169 h).elim (hsep k) (fun e => by rw [e]; exact Nat.le_trans hsz (size_only O186))
   rw [run_goH hbq hm141 hm150 O] at hrun
   have hln : (O ++ [m149]).length = O.length + 1 := List.length_append
   have O187 := (Only.trans (Only.trans (Only.trans (Only.trans (Only.trans (Only.refl (fun _ => True) w14) o21 (fun _ _ => .inl trivial)) o135 (fun _ _ => .inl trivial)) o159 (fun _ _ => .inl trivial)) o168 (fun _ _ => .inl trivial)) o180 (fun _ _ => .inl trivial))
   have O188 : Only NoF w w179 := (o_sg (o_sg O171 o168 (Nat.le_refl _) (ownF_ge rO)) o180 (Nat.le_refl _) (ownF_ge rH))
   have r189 := (ow_only r167 o180 (ow_ne r167 r175 (by decide)))
   exact ⟨_, (by omega), (H.set q ⟨m140.h, m140.A, m140.p, m140.c, m140.f, m140.t + 1⟩), _, A163, c164, rfl, Z.cut ⟨rfl, rfl, trivial⟩, (by rw [List.length_set]; exact hHn), (asc_set hAH hm141), hrun, (by omega), O188, r182, r189, hT183, hT184, hT185, (Nat.le_trans hsz (size_only O187))⟩
end
end Go.Proofs.YtdcbjedkddgfkaaGreatDoor
