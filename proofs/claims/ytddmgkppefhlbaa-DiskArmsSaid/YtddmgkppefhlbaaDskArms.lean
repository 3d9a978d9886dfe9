/-
  DiskArms, walked: it returns true. No condition.
-/
import Derived.Test.YtddmgkppefhlbaaDskSync
import Derived.Test.YtddmgkppefhlbaaArmsP
import Derived.Deep.QuietTactic
import Derived.BigQuiet
namespace Go.Proofs.Ytddmgkppefhlbaa
set_option linter.unusedVariables false
set_option linter.unusedSimpArgs false
set_option linter.unusedSectionVars false
open Go.RowKit

section
variable {w0 w : World} {d c : Nat} {D C : Dsk}
theorem Two.do_ (h : Two w0 d D c C w) (a : DAct) {kv : Value} {S : Nat → Prop} (hk : Ints S w kv a.keep) (hn : I64 a.n) (hs : a.small) (hS : ∀ k, S k → k < w0.heap.size) {r : Int} (hr : (D.step a).2 = r) :
    Calls Try.prog 12 #[.pointer (some ⟨d, 0, none⟩), .agg #[.int .i64 a.d, .int .i64 a.f, .int .i64 a.n, strV a.s, kv]] w (OneTo w0 d (D.step a).1 c C (.int .i64 r)) := by
  subst hr
  exact h.call fun F i hF => do_c i a hk hn hs fun k hk hm => by
    have := hS k hk
    have := hF k (.inl hm)
    omega
theorem Two.dor_ (h : Two w0 d D c C w) (a : DAct) {kv : Value} {S : Nat → Prop} (hk : Ints S w kv a.keep) (hn : I64 a.n) (hs : a.small) (hS : ∀ k, S k → k < w0.heap.size) {r : Int} (hr : (C.step a).2 = r) :
    Calls Try.prog 12 #[.pointer (some ⟨c, 0, none⟩), .agg #[.int .i64 a.d, .int .i64 a.f, .int .i64 a.n, strV a.s, kv]] w (OneTo w0 d D c (C.step a).1 (.int .i64 r)) :=
  (h.swap.do_ a hk hn hs hS hr).mono fun _ _ ⟨he, ht⟩ => ⟨he, ht.swap⟩
theorem Two.second (h : Two w0 d D c C w) : NewDisk w0 c C w := h.swap.first
end

theorem quiet_left {P : Program} {f : FuncId} {args : Array Value} {w : World} {n : Nat} {v : Value}
    (h : Calls P f args (w.drewN n) fun e w' => e = .returned v ∧ w.drewN n = w') : Calls P f args (w.drewN n) fun e w'' => e = .returned v ∧ ∃ m, w'' = w.drewN m :=
  h.mono fun _ _ ⟨he, hm⟩ => ⟨he, n, hm.symm⟩

set_option maxRecDepth 100000 in
set_option maxHeartbeats 1000000 in
theorem same_c {w0 w : World} {d c : Nat} {D C : Dsk} {S : Nat → Prop} {v : Value} {l : List DAct} (h : Two w0 d D c C w) (hk : Dsk.Like D C) (hl : Acts S w v l) :
    Calls Try.prog 28 #[.pointer (some ⟨d, 0, none⟩), .pointer (some ⟨c, 0, none⟩), v] w (SmallTo w) := by
  obtain ⟨Am, cm, rfl, m1, m2, hmm⟩ := hl.formA
  unfold maxLen at m2
  have HM := Lib.hid hmm
  have H := Lib.hid h
  have HK := Lib.hid hk
  have HD := Lib.hid (h.first.down_ hk.1)
  have HC := Lib.hid (h.second.down_ rfl)
  clear h hk hl hmm
  generalize C.down = cd at HD HC
  go_enter Try.func28, Try.ntmps28
  go_wp2_with fail
  refine HD.out.mono ?_
  rintro e w' ⟨rfl, rfl⟩
  go_wp2_with fail
  refine HC.out.mono ?_
  rintro e w' ⟨rfl, rfl⟩
  go_wp2_with fail
  go_loopw [7] (fun i wr => ∃ k : Nat, k ≤ l.length ∧ i = .int .i64 (k : Int) ∧ Only NoF w wr) (fun i _ => l.length - (intOf i).toNat)
  case atStart => exact ⟨0, by omega, by go_num, Only.refl _ _⟩
  case round =>
    obtain ⟨k, hkm, rfl, ho⟩ := hrel
    have HO := Lib.hid ho
    clear ho
    by_cases hlt : k < l.length
    · obtain ⟨b, off, A, kc, rfl, g1, g2, g4, g5, g6, g7, hw⟩ := HM.out k hlt
      obtain ⟨_, _, c1, _, _, _⟩ := hw _ HO.out
      obtain ⟨sx, rx, hx⟩ : ∃ sx rx, D.read l[k].f 0 16777216 = (sx, rx) := ⟨_, _, rfl⟩
      have hy := (HK.out.read l[k].f 0 16777216).symm.trans hx
      have HX := Lib.hid hx
      have HY := Lib.hid hy
      have H2 := Lib.hid (H.out.keep HO.out)
      obtain ⟨z, hz⟩ : ∃ z : Nat, D.size l[k].f = z := ⟨_, rfl⟩
      have hz2 := (HK.out.size l[k].f).symm.trans hz
      have HS1 := Lib.hid (fun n : Nat => ((H2.out.keep ((Only.refl NoF _).drewN n)).first.size_ l[k].f hz))
      have HS2 := Lib.hid (fun n : Nat => ((H2.out.keep ((Only.refl NoF _).drewN n)).second.size_ l[k].f hz2))
      clear hw hx hy hz hz2
      go_wp2_with fail
      refine (H2.out.first.read_ _ 0 16777216 HX.out (by unfold I64; omega) (by unfold I64; omega)).mono ?_
      rintro e w' ⟨rfl, rfl⟩
      go_wp2_with fail
      refine (H2.out.second.read_ _ 0 16777216 HY.out (by unfold I64; omega) (by unfold I64; omega)).mono ?_
      rintro e w' ⟨rfl, rfl⟩
      go_wp2_with fail
      go_quiet ((first | (go_at_call 16; with_reducible exact quiet_left (HS1.out _)) | (go_at_call 16; with_reducible exact quiet_left (HS2.out _))))
      go_wp2_with fail
      go_roundw
      case rel => exact ⟨k + 1, by omega, by go_num, HO.out.drewN _⟩
      case measure => simp [intOf]; omega
    · obtain rfl : k = l.length := by omega
      go_wp2_with fail
      go_ret
      exact ⟨rfl, HO.out⟩
end Go.Proofs.Ytddmgkppefhlbaa
