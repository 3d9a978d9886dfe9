/-
  A journal that may not be there; the disk's other calls on things in memory; an operation's cells. No condition beyond those that each names.
  The journal's laws: few, texts, disky, walked. No condition.
-/
import Derived.Test.YtdegmpigkgkafaaGreatDoorJSm
namespace Go.Proofs.YtdegmpigkgkafaaGreatDoor
set_option linter.unusedVariables false
set_option linter.unusedSimpArgs false
set_option linter.unusedSectionVars false
section
open Go.RowKit
def JO (b : Nat) (D : Dsk) : Option (Nat × Jn) → Thing
 | none => DiskT b D
 | some (g, J) => JT b g D J
theorem jo_good (b : Nat) (D : Dsk) (oj : Option (Nat × Jn)) : Good (JO b D oj) := by
 rcases oj with _ | ⟨g, J⟩
 · exact diskT_good b D
 · exact jt_good b g D J
section
variable {w : World} {b g : Nat} {D : Dsk} {J : Jn} {F : Foot} {X : Thing} {oj : Option (Nat × Jn)}
/-- a call on the disk, whether there is a journal or not -/
theorem call_o (h : JO b D oj w F) {f : FuncId} {args : Array Value} {v : Value} {D' : Dsk} (hc : ∀ F2, DiskT b D w F2 → (∀ k, F2.m k → F.m k) → Calls Tryz.prog f args w (TurnTo v (DiskT b D') w F2)) : Calls Tryz.prog f args w (TurnTo v (JO b D' oj) w F) := by
 rcases oj with _ | ⟨g, J⟩
 · exact hc F h fun _ h => h
 · exact BothT.call (jb_good b g J) h fun G2 h2 hm _ => hc G2 h2 hm
theorem ints_lt {w0 : World} {v : Value} {l : List Int} (h : SliceOf AllB 1 KInt.R w0 v l) (o : Only NoF w0 w) : Ints (fun k => k < w0.heap.size) w v l :=
 SliceOf.only (SliceOf.ltB h) o (fun _ _ h => h) fun _ _ _ h => h
theorem crash_o (h : JO b D oj w F) {w0 : World} {v : Value} {l : List Int} (hk : SliceOf AllB 1 KInt.R w0 v l) (o : Only NoF w0 w) (hl : l.length ≤ 1000) (hS : ∀ k, F.m k → w0.heap.size ≤ k) : Calls Tryz.prog 14 [.pointer (some ⟨b, 0, none⟩), v].toArray w (TurnTo (.tuple #[]) (JO b (D.crash l) oj) w F) :=
 call_o h fun F2 h2 hm => by
  obtain ⟨x, hx, rfl⟩ := h2
  obtain ⟨A, cap, rfl, _, _, hr⟩ := (ints_lt hk o).cells
  exact dCrash_c hx l A cap _ hr (by omega) fun k hk => ⟨fun e => by have := hS k (hm k (.inl e)); omega, fun e => by have := hS k (hm k (.inr (.inl e))); omega, fun e => by have := hS k (hm k (.inr (.inr (.inl e)))); omega⟩
theorem arm_o (h : JO b D oj w F) {w0 : World} {v : Value} {l : List Int} (hk : SliceOf AllB 1 KInt.R w0 v l) (o : Only NoF w0 w) (hl : l.length ≤ 1000) {n : Int} (hn : I64 n) : Calls Tryz.prog 12 [.pointer (some ⟨b, 0, none⟩), .int .i64 n, v].toArray w (TurnTo (.tuple #[]) (JO b (D.arm n l) oj) w F) :=
 call_o h fun F2 h2 _ => dArm_c h2 n hn (ints_lt hk o) hl
/-- an append, a sync: what the plain functions say -/
theorem append_o (hG : Gr w) (h : JT b g D J w F) (h6 : ∀ k, F.m k → 6 ≤ k) {t : Str} (ht : t.length ≤ 900000) (hn : J.n ≤ 100000000) (hll : J.l.length ≤ 100000000) : Calls Tryz.prog 39 [.pointer (some ⟨g, 0, none⟩), strV t].toArray w (TurnTo (.int .i64 (J.append D t).2.2) (JT b g (J.append D t).1 (J.append D t).2.1) w F) :=
 append_j hG h h6 ht hn hll rfl
theorem sync_o (hG : Gr w) (h : JT b g D J w F) (h6 : ∀ k, F.m k → 6 ≤ k) : Calls Tryz.prog 43 [.pointer (some ⟨g, 0, none⟩)].toArray w (TurnTo (.int .i64 (J.sync D).2.2) (JT b g (J.sync D).1 (J.sync D).2.1) w F) := sync_j hG h h6 rfl
end
/-! ### an operation -/
theorem opfew_step {α : Type} {p : α → Prop} {l : List α} {k : Nat} {m : α} (hm : l[k]? = some m) (h : ∀ x ∈ l.take k, p x) (h1 : p m) : ∀ x ∈ l.take (k + 1), p x := by
 rw [take_succ_get hm]
 intro x hx
 rcases List.mem_append.1 hx with hx | hx
 · exact h x hx
 · rw [List.mem_singleton.1 hx]; exact h1
end
section
open Go.RowKit
end
end Go.Proofs.YtdegmpigkgkafaaGreatDoor
