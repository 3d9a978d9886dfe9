/-
  A journal that may not be there; the disk's other calls on things in memory; an operation's cells. No condition beyond those that each names.
  The journal's laws: few, texts, disky, walked. No condition.
-/
import Derived.Test.YtlnadcihnfppaaaGreatDoorJSm
namespace Go.Proofs.YtlnadcihnfppaaaGreatDoor
set_option linter.unusedVariables false
set_option linter.unusedSimpArgs false
set_option linter.unusedSectionVars false
section
open Go.RowKit

def JO (b : Nat) (D : Dsk) : Option (Nat × Jn) → Thing
  | none => DiskT b D
  | some (g, J) => JT b g D J
def jp : Option (Nat × Jn) → Value
  | none => .pointer none
  | some (g, _) => .pointer (some ⟨g, 0, none⟩)
theorem jo_good (b : Nat) (D : Dsk) (oj : Option (Nat × Jn)) : Good (JO b D oj) := by
  rcases oj with _ | ⟨g, J⟩
  · exact diskT_good b D
  · exact jt_good b g D J
theorem isS_t {oj : Option (Nat × Jn)} (h : oj.isSome = true) : ∃ g J, oj = some (g, J) := by
  rcases oj with _ | ⟨g, J⟩
  · cases h
  · exact ⟨g, J, rfl⟩
theorem isS_f {oj : Option (Nat × Jn)} (h : oj.isSome = false) : oj = none := by
  rcases oj with _ | ⟨g, J⟩
  · rfl
  · cases h
section
variable {w : World} {b g : Nat} {D : Dsk} {J : Jn} {F : Foot} {X : Thing} {oj : Option (Nat × Jn)}
/-- opening, whatever comes of it: what it returns and leaves -/
def OpenO (b : Nat) (r : Dsk × Int × Option Jn) (w : World) (F : Foot) (e : Ending) (w' : World) : Prop := ∃ oj, oj.map (·.2) = r.2.2 ∧ e = .returned (.tuple #[jp oj, .int .i64 r.2.1]) ∧ ThingTo (JO b r.1 oj) w F w'
theorem open_o (hG : Gr w) (h : JO b D oj w F) (h6 : ∀ k, F.m k → 6 ≤ k) {f : Int} : Calls Tryz.prog 8 [.pointer (some ⟨b, 0, none⟩), .int .i64 f].toArray w (OpenO b (openJ D f) w F) := by
  have key : ∀ F2, DiskT b D w F2 → (∀ k, F2.m k → F.m k) → (∀ k, F2.r k → F.r k) → Calls Tryz.prog 8 [.pointer (some ⟨b, 0, none⟩), .int .i64 f].toArray w (OpenO b (openJ D f) w F) := by
    intro F2 h2 hm hr
    refine (Open_v_ hG h2 (fun k hk => h6 k (hm k hk)) (f := f)).mono ?_
    rintro e w' (⟨h1, he, ht⟩ | ⟨J', g, h1, he, ht⟩)
    · exact ⟨none, h1.symm, he, ht.low hm hr⟩
    · exact ⟨some (g, J'), h1.symm, he, ht.low hm hr⟩
  rcases oj with _ | ⟨g, J⟩
  · exact key F h (fun _ h => h) (fun _ h => h)
  · obtain ⟨F2, h2, hm, hr⟩ := JT.disk h
    exact key F2 h2 hm hr
/-- a call on the disk, whether there is a journal or not -/
theorem call_o (h : JO b D oj w F) {f : FuncId} {args : Array Value} {v : Value} {D' : Dsk} (hc : ∀ F2, DiskT b D w F2 → (∀ k, F2.m k → F.m k) → Calls Tryz.prog f args w (TurnTo v (DiskT b D') w F2)) : Calls Tryz.prog f args w (TurnTo v (JO b D' oj) w F) := by
  rcases oj with _ | ⟨g, J⟩
  · exact hc F h fun _ h => h
  · exact BothT.call (jb_good b g J) h fun G2 h2 hm _ => hc G2 h2 hm
theorem lose_o (h : JO b D oj w F) {n : Int} (hn : I64 n) : Calls Tryz.prog 16 [.pointer (some ⟨b, 0, none⟩), .int .i64 n].toArray w (TurnTo (.tuple #[]) (JO b (D.lose n) oj) w F) := call_o h fun _ h2 _ => dLose_c h2 n hn
theorem start_o (h : JO b D oj w F) : Calls Tryz.prog 22 [.pointer (some ⟨b, 0, none⟩)].toArray w (TurnTo (.tuple #[]) (JO b D.start oj) w F) := call_o h fun _ h2 _ => dStart_c h2
theorem ints_lt {w0 : World} {v : Value} {l : List Int} (h : SliceOf AllB 1 KInt.R w0 v l) (o : Only NoF w0 w) : Ints (fun k => k < w0.heap.size) w v l :=
  SliceOf.only (SliceOf.ltB h) o (fun _ _ h => h) fun _ _ _ h => h
theorem crash_o (h : JO b D oj w F) {w0 : World} {v : Value} {l : List Int} (hk : SliceOf AllB 1 KInt.R w0 v l) (o : Only NoF w0 w) (hl : l.length ≤ 1000) (hS : ∀ k, F.m k → w0.heap.size ≤ k) : Calls Tryz.prog 20 [.pointer (some ⟨b, 0, none⟩), v].toArray w (TurnTo (.tuple #[]) (JO b (D.crash l) oj) w F) :=
  call_o h fun F2 h2 hm => by
    obtain ⟨x, hx, rfl⟩ := h2
    obtain ⟨A, cap, rfl, _, _, hr⟩ := (ints_lt hk o).cells
    exact dCrash_c hx l A cap _ hr (by omega) fun k hk => ⟨fun e => by have := hS k (hm k (.inl e)); omega, fun e => by have := hS k (hm k (.inr (.inl e))); omega, fun e => by have := hS k (hm k (.inr (.inr (.inl e)))); omega⟩
theorem arm_o (h : JO b D oj w F) {w0 : World} {v : Value} {l : List Int} (hk : SliceOf AllB 1 KInt.R w0 v l) (o : Only NoF w0 w) (hl : l.length ≤ 1000) {n : Int} (hn : I64 n) : Calls Tryz.prog 18 [.pointer (some ⟨b, 0, none⟩), .int .i64 n, v].toArray w (TurnTo (.tuple #[]) (JO b (D.arm n l) oj) w F) :=
  call_o h fun F2 h2 _ => dArm_c h2 n hn (ints_lt hk o) hl
/-- an append, a sync: what the plain functions say -/
theorem append_o (hG : Gr w) (h : JT b g D J w F) (h6 : ∀ k, F.m k → 6 ≤ k) {t : Str} (ht : t.length ≤ 900000) (hn : J.n ≤ 100000000) (hll : J.l.length ≤ 100000000) : Calls Tryz.prog 12 [.pointer (some ⟨g, 0, none⟩), strV t].toArray w (TurnTo (.int .i64 (J.append D t).2.2) (JT b g (J.append D t).1 (J.append D t).2.1) w F) :=
  append_j hG h h6 ht hn hll rfl
theorem sync_o (hG : Gr w) (h : JT b g D J w F) (h6 : ∀ k, F.m k → 6 ≤ k) : Calls Tryz.prog 14 [.pointer (some ⟨g, 0, none⟩)].toArray w (TurnTo (.int .i64 (J.sync D).2.2) (JT b g (J.sync D).1 (J.sync D).2.1) w F) := sync_j hG h h6 rfl
end
/-! ### an operation -/
structure OpM where
  k : Int
  s : Str
  n : Int
  A : Option Addr
  l : List Int
  c : Nat
def KOp (w : World) : Row OpM := ⟨4, fun m => [.int .i64 m.k, strV m.s, .int .i64 m.n, .slice m.A m.l.length m.c],
  fun m => I64 m.k ∧ m.s.length ≤ maxLen ∧ I64 m.n ∧ IntsV w (.slice m.A m.l.length m.c) m.l, fun _ => rfl, by decide, fun x u hu => by
  simp at hu
  rcases hu with rfl | rfl | rfl | rfl <;> rfl⟩
abbrev OpsV (w0 w : World) (v : Value) (l : List OpM) : Prop := SliceOf AllB 4 (KOp w0).R w v l
def opFew (m : OpM) : Prop := m.s.length ≤ 200 ∧ m.l.length ≤ 50
def FewO (l : List OpM) : Prop := l.length ≤ 25 ∧ ∀ m ∈ l, opFew m
def FewS (l : List Str) : Prop := l.length ≤ 8 ∧ ∀ t ∈ l, t.length ≤ 200
theorem opfew_step {α : Type} {p : α → Prop} {l : List α} {k : Nat} {m : α} (hm : l[k]? = some m) (h : ∀ x ∈ l.take k, p x) (h1 : p m) : ∀ x ∈ l.take (k + 1), p x := by
  rw [take_succ_get hm]
  intro x hx
  rcases List.mem_append.1 hx with hx | hx
  · exact h x hx
  · rw [List.mem_singleton.1 hx]; exact h1
end
section
open Go.RowKit

theorem elemOp : ElemIs Tryz.prog 22 38 4 56 := by
  obtain ⟨i, h1, h2, h3, h4⟩ := info_parts (show (Tryz.prog.info? 38).map (fun i => (i.zero, i.size, i.bytes)) = some (some (.agg #[.int .i64 0, strV [], .int .i64 0, .slice none 0 0]), 4, 56) by kernel_rfl)
  exact ⟨Tryz.underlying22, i, _, h1, h2, h3, h4, rfl⟩
theorem opfew_of {m : OpM} (h : (decide ((200 : Int) < ((List.length m.s : Nat) : Int)) || decide ((50 : Int) < ((m.l.length : Nat) : Int))) = false) : opFew m := by
  simp only [Bool.or_eq_false_iff, decide_eq_false_iff_not] at h
  unfold opFew; omega
set_option maxRecDepth 20000 in
set_option maxHeartbeats 4000000 in
theorem few03_v_ {w : World} {l : List OpM} {A1 : Option Addr} {c1 : Nat} (f1 : OpsV w w (.slice A1 l.length c1) l) : Calls Tryz.prog 5 [.slice A1 l.length c1].toArray w (Tells (FewO l) w) := by
  have hbd1 := Nat.le_trans (SliceOf.cap_ f1) (SliceOf.lens f1).2
  refine calls_start Tryz.func5 rfl rfl ?_
  intro az Hz
  rw [Tryz.ntmps5] at Hz
  refine wp_seq_k fun K1 hK1 => ?_
  -- law.go:38
  refine wp_region_lit ?_
  refine L (r_as Hz rfl) Hz rfl ?_
  clear Hz az; intro az Hz
  refine hK1 _ _ ?_
  refine wp_seq_k fun K2 hK2 => ?_
  refine wp_seq_k fun K3 hK3 => ?_
  -- law.go:39
  refine wp_region_lit ?_
  refine L (r_as Hz rfl) Hz rfl ?_
  clear Hz az; intro az Hz
  refine hK3 _ _ ?_
  refine wp_block ?_
  refine wp_loop_m (fun mz az W => ∃ k : Nat, mz = l.length - k ∧ Fr 29 [(0, .slice A1 (l.length) c1), (3, .int .i64 ((k : Int)))] az ∧ (k ≤ l.length) ∧ (∀ x ∈ l.take k, opFew x) ∧ Only NoF w W) ?_ ?_
  · -- start
    exact ⟨_, 0, rfl, Hz.cut ⟨rfl, rfl, trivial⟩, Nat.zero_le _, (fun x h => by cases h), (Only.refl NoF w)⟩
  clear Hz az
  rintro mz az w4 ⟨k, hm6, Hz, hk, hpl, o5⟩
  refine wp_seq_k fun K7 hK7 => ?_
  refine wp_seq_k fun K8 hK8 => ?_
  -- law.go:39
  refine wp_region_lit ?_
  refine L (r_mv Hz rfl) Hz rfl ?_
  clear Hz az; intro az Hz
  refine L (r_mv Hz rfl) Hz rfl ?_
  clear Hz az; intro az Hz
  refine L (r_lenL Tryz.underlying22 Hz rfl) Hz rfl ?_
  clear Hz az; intro az Hz
  refine L (r_ltI Hz rfl rfl) Hz rfl ?_
  clear Hz az; intro az Hz
  refine hK8 _ _ ?_
  refine br Hz rfl (fun hc9 => ?_) (fun hc9 => ?_)
  · -- if0
    have p10 := of_decide_eq_true hc9
    refine wp_skip ?_
    refine hK7 _ _ ?_
    refine wp_seq_k fun K11 hK11 => ?_
    refine wp_block ?_
    refine wp_seq_k fun K12 hK12 => ?_
    -- law.go:40
    refine wp_region_lit ?_
    refine L (r_mv Hz rfl) Hz rfl ?_
    clear Hz az; intro az Hz
    refine L (r_mv Hz rfl) Hz rfl ?_
    clear Hz az; intro az Hz
    have hk13 : k < (l).length := by omega
    have h19 := (SliceOf.kp f1 o5 (fun _ _ h => h) (fun _ _ _ _ h => h))
    obtain ⟨m14, hm15, ok16, hA17⟩ := Row.el (KOp w) h19 hk13
    have E18 : ∀ W, Only NoF w4 W → CA W (eA A1 4 (k)) [.int .i64 (m14.k), strV (m14.s), .int .i64 (m14.n), .slice m14.A (m14.l.length) m14.c] := Row.ce (KOp w) h19 hm15 rfl
    refine L (r_ia (k := k) (size := 4) Tryz.underlying22 Tryz.sizeOf38 Hz rfl rfl rfl hk13 hA17) Hz rfl ?_
    clear Hz az; intro az Hz
    refine L (r_fa (m' := 1) Tryz.underlying38 rfl Tryz.sizeOf9 rfl Hz rfl rfl) Hz rfl ?_
    clear Hz az; intro az Hz
    refine L (r_ld Tryz.isAgg9 Hz rfl ((E18 _ (Only.refl NoF w4)) 1 _ rfl)) Hz rfl ?_
    clear Hz az; intro az Hz
    refine L (r_lenS Tryz.underlying9 Hz rfl) Hz rfl ?_
    clear Hz az; intro az Hz
    refine L (r_gtI Hz rfl rfl) Hz rfl ?_
    clear Hz az; intro az Hz
    refine L (r_mv Hz rfl) Hz rfl ?_
    clear Hz az; intro az Hz
    refine LG Hz rfl rfl gd_f (fun hb => r_mv Hz rfl) rfl ?_
    clear Hz az; intro az Hz
    refine LG Hz rfl rfl gd_f (fun hb => r_mv Hz rfl) rfl ?_
    clear Hz az; intro az Hz
    refine LG Hz rfl rfl gd_f (fun hb => r_ia (k := k) (size := 4) Tryz.underlying22 Tryz.sizeOf38 Hz (evg hb rfl) (evg hb rfl) rfl hk13 hA17) rfl ?_
    clear Hz az; intro az Hz
    refine LG Hz rfl rfl gd_f (fun hb => r_fa (m' := 3) Tryz.underlying38 rfl Tryz.sizeOf36 rfl Hz (evg hb rfl) rfl) rfl ?_
    clear Hz az; intro az Hz
    refine LG Hz rfl rfl gd_f (fun hb => r_ld Tryz.isAgg36 Hz (evg hb rfl) ((E18 _ (Only.refl NoF w4)) 3 _ rfl)) rfl ?_
    clear Hz az; intro az Hz
    refine LG Hz rfl rfl gd_f (fun hb => r_lenL Tryz.underlying36 Hz (evg hb rfl)) rfl ?_
    clear Hz az; intro az Hz
    refine LG Hz rfl rfl gd_f (fun hb => r_gtI Hz (evg hb rfl) rfl) rfl ?_
    clear Hz az; intro az Hz
    refine L (r_or Hz rfl rfl rfl) Hz rfl ?_
    clear Hz az; intro az Hz
    refine hK12 _ _ ?_
    refine br Hz rfl (fun hc20 => ?_) (fun hc20 => ?_)
    · -- if1
      have d21 := hc20
      refine wp_seq_k fun K22 hK22 => ?_
      -- law.go:41
      refine wp_region_lit ?_
      refine L (r_as Hz rfl) Hz rfl ?_
      clear Hz az; intro az Hz
      refine hK22 _ _ ?_
      refine wp_ret ?_
      show bodyPost _ _ _ .ret _ _
      refine ret_of (vs := [.bool (false)]) Hz Tryz.results5 ⟨rfl, trivial⟩ ?_
      exact ⟨false, rfl, (fun h => by cases h), o5⟩
    · -- else1
      have p23 := of_decide_eq_false (or_f hc20).1
      have p24 := of_decide_eq_false (or_f hc20).2
      refine wp_skip ?_
      refine hK11 _ _ ?_
      -- law.go:39
      refine wp_region_lit ?_
      refine L (r_mv Hz rfl) Hz rfl ?_
      clear Hz az; intro az Hz
      have i25 : I64 (((k : Int) + 1)) := by unfold I64; omega
      refine L (r_addI (r := ((k : Int) + 1)) Hz rfl rfl rfl i25) Hz rfl ?_
      clear Hz az; intro az Hz
      refine L (r_as Hz rfl) Hz rfl ?_
      clear Hz az; intro az Hz
      exact ⟨_, (by omega), k + 1, rfl, Hz.cut ⟨rfl, rfl, trivial⟩, (by omega), (opfew_step hm15 hpl (opfew_of hc20)), o5⟩
  · -- else0
    have p26 := of_decide_eq_false hc9
    refine wp_exit ?_
    refine th_exit ?_
    refine th_exit ?_
    refine ib_hit ?_
    refine hK2 _ _ ?_
    refine wp_seq_k fun K27 hK27 => ?_
    -- law.go:44
    refine wp_region_lit ?_
    refine L (r_mv Hz rfl) Hz rfl ?_
    clear Hz az; intro az Hz
    refine L (r_lenL Tryz.underlying22 Hz rfl) Hz rfl ?_
    clear Hz az; intro az Hz
    refine L (r_leI Hz rfl rfl) Hz rfl ?_
    clear Hz az; intro az Hz
    refine L (r_as Hz rfl) Hz rfl ?_
    clear Hz az; intro az Hz
    refine hK27 _ _ ?_
    refine wp_ret ?_
    show bodyPost _ _ _ .ret _ _
    refine ret_of (vs := [.bool (decide (((l.length : Nat) : Int) ≤ 25))]) Hz Tryz.results5 ⟨rfl, trivial⟩ ?_
    rw [List.take_of_length_le (by omega)] at hpl
    exact ⟨_, rfl, fun hf => ⟨by have := of_decide_eq_true hf; omega, hpl⟩, o5⟩

end
end Go.Proofs.YtlnadcihnfppaaaGreatDoor
