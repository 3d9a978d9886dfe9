/-
  The laws' helper do, walked: an act on the program's disk. Condition: the act is within the bounds of few.
-/
import Derived.Test.YtddmgkppefhlbaaDskW10
import Derived.Test.YtddmgkppefhlbaaActs
import Derived.Test.YtddmgkppefhlbaaBits
namespace Go.Proofs.Ytddmgkppefhlbaa
set_option linter.unusedVariables false
set_option linter.unusedSimpArgs false
set_option linter.unusedSectionVars false
open Go.RowKit

/-- an act's cells -/
def RAct (S : Nat → Prop) (w : World) (cs : List Value) (a : DAct) : Prop :=
  ∃ kv, cs = [.int .i64 a.d, .int .i64 a.f, .int .i64 a.n, strV a.s, kv] ∧ I64 a.d ∧ I64 a.f ∧ I64 a.n ∧ a.s.length ≤ maxLen ∧ Ints S w kv a.keep
abbrev Acts (S : Nat → Prop) (w : World) (v : Value) (l : List DAct) : Prop := SliceOf S 5 (RAct S) w v l
theorem Acts.only {S F : Nat → Prop} {w w' : World} {v : Value} {l : List DAct} (h : Acts S w v l) (ho : Only F w w') (hF : ∀ k, S k → ¬ F k) : Acts S w' v l :=
  SliceOf.only h ho hF fun _ _ _ ⟨kv, e, h1, h2, h3, h4, h5⟩ => ⟨kv, e, h1, h2, h3, h4, h5.only ho hF⟩

section
variable {w : World} {b : Nat} {D : Dsk} {F : Foot}

theorem DiskTo.alloc_ {o : Obj} {D' : Dsk} {w' : World} (h : DiskTo (w.alloc o) b F D' w') : DiskTo w b F D' w' :=
  DiskTo.trans ((Only.refl F.m w).alloc o) (fun _ hk => .inl hk) (fun _ hk => .inl hk) h

theorem dCrashI_c (h : IsDisk w b D F) {S : Nat → Prop} {v : Value} {keep : List Int} (hk : Ints S w v keep) (hl : keep.length ≤ 1000) (hS : ∀ k, S k → ¬ F.m k) :
    Calls Try.prog 25 #[.pointer (some ⟨b, 0, none⟩), v] w fun e w' => e = .returned (.tuple #[]) ∧ DiskTo w b F (D.crash keep) w' := by
  obtain ⟨x, h, rfl⟩ := h
  obtain ⟨A, cap, rfl, _, _, hr⟩ := hk.cells
  exact dCrash_c h keep A cap S hr (by omega) fun k hk => ⟨fun e => hS k hk (.inl e), fun e => hS k hk (.inr (.inl e)), fun e => hS k hk (.inr (.inr (.inl e)))⟩

def DoTo (w : World) (b : Nat) (F : Foot) (p : Dsk × Int) (e : Ending) (w' : World) : Prop := e = .returned (.int .i64 p.2) ∧ DiskTo w b F p.1 w'

set_option maxHeartbeats 1000000 in
theorem do2_c (h : IsDisk w b D F) (d f n : Int) (s : Str) (kv : Value) (hn : I64 n) (hs : s.length ≤ 1000000) (hd : d % 8 = 2) :
    Calls Try.prog 12 #[.pointer (some ⟨b, 0, none⟩), .agg #[.int .i64 d, .int .i64 f, .int .i64 n, strV s, kv]] w (DoTo w b F (D.sync f)) := by
  have hb := bits_7 d
  rw [hd] at hb
  have hW := h.only ((Only.refl NoF w).alloc (.cells #[.int .i64 d, .int .i64 f, .int .i64 n, strV s, kv] 33)) fun _ _ h => h
  have hc := (dSync_c hW f)
  have Hc := Lib.hid hc
  clear hd h hW hc
  go_enter Try.func12, Try.ntmps12
  go_wp2_with (go_at_call 19; refine Hc.out.mono ?_; rintro e w' ⟨rfl, h1⟩)
  go_ret
  exact ⟨rfl, h1.alloc_⟩
set_option maxHeartbeats 1000000 in
theorem do3_c (h : IsDisk w b D F) (d f n : Int) (s : Str) (kv : Value) (hn : I64 n) (hs : s.length ≤ 1000000) (hd : d % 8 = 3) :
    Calls Try.prog 12 #[.pointer (some ⟨b, 0, none⟩), .agg #[.int .i64 d, .int .i64 f, .int .i64 n, strV s, kv]] w (DoTo w b F (D.truncate f n)) := by
  have hb := bits_7 d
  rw [hd] at hb
  have hW := h.only ((Only.refl NoF w).alloc (.cells #[.int .i64 d, .int .i64 f, .int .i64 n, strV s, kv] 33)) fun _ _ h => h
  have hc := (dTruncate_c hW f n hn)
  have Hc := Lib.hid hc
  clear hd h hW hc
  go_enter Try.func12, Try.ntmps12
  go_wp2_with (go_at_call 30; refine Hc.out.mono ?_; rintro e w' ⟨rfl, h1⟩)
  go_ret
  exact ⟨rfl, h1.alloc_⟩
set_option maxHeartbeats 1000000 in
theorem do0_c (h : IsDisk w b D F) (d f n : Int) (s : Str) (kv : Value) (hn : I64 n) (hs : s.length ≤ 1000000) (hd : d % 8 = 0) :
    Calls Try.prog 12 #[.pointer (some ⟨b, 0, none⟩), .agg #[.int .i64 d, .int .i64 f, .int .i64 n, strV s, kv]] w (DoTo w b F (D.write f n s)) := by
  have hb := bits_7 d
  rw [hd] at hb
  have hW := h.only ((Only.refl NoF w).alloc (.cells #[.int .i64 d, .int .i64 f, .int .i64 n, strV s, kv] 33)) fun _ _ h => h
  have hc := (dWrite_c hW f n s hn hs)
  have Hc := Lib.hid hc
  clear hd h hW hc
  go_enter Try.func12, Try.ntmps12
  go_wp2_with (go_at_call 29; refine Hc.out.mono ?_; rintro e w' ⟨rfl, h1⟩)
  go_ret
  exact ⟨rfl, h1.alloc_⟩
set_option maxHeartbeats 1000000 in
theorem do1_c (h : IsDisk w b D F) (d f n : Int) (s : Str) (kv : Value) (hn : I64 n) (hs : s.length ≤ 1000000) (hd : d % 8 = 1) :
    Calls Try.prog 12 #[.pointer (some ⟨b, 0, none⟩), .agg #[.int .i64 d, .int .i64 f, .int .i64 n, strV s, kv]] w (DoTo w b F (D.write f n s)) := by
  have hb := bits_7 d
  rw [hd] at hb
  have hW := h.only ((Only.refl NoF w).alloc (.cells #[.int .i64 d, .int .i64 f, .int .i64 n, strV s, kv] 33)) fun _ _ h => h
  have hc := (dWrite_c hW f n s hn hs)
  have Hc := Lib.hid hc
  clear hd h hW hc
  go_enter Try.func12, Try.ntmps12
  go_wp2_with (go_at_call 29; refine Hc.out.mono ?_; rintro e w' ⟨rfl, h1⟩)
  go_ret
  exact ⟨rfl, h1.alloc_⟩
set_option maxHeartbeats 1000000 in
theorem do4_c (h : IsDisk w b D F) (d f n : Int) (s : Str) (kv : Value) (hd : d % 8 = 4) :
    Calls Try.prog 12 #[.pointer (some ⟨b, 0, none⟩), .agg #[.int .i64 d, .int .i64 f, .int .i64 n, strV s, kv]] w (DoTo w b F ((D.lose (n % 4)), 0)) := by
  have hb := bits_7 d
  rw [hd] at hb
  have hb3 := bits_3 n
  have hW := h.only ((Only.refl NoF w).alloc (.cells #[.int .i64 d, .int .i64 f, .int .i64 n, strV s, kv] 33)) fun _ _ h => h
  have hc := (dLose_c hW (n % 4) (by unfold I64; omega))
  have Hc := Lib.hid hc
  clear hd h hW hc
  go_enter Try.func12, Try.ntmps12
  go_wp2_with (go_at_call 31; refine Hc.out.mono ?_; rintro e w' ⟨rfl, h1⟩)
  go_ret
  exact ⟨rfl, h1.alloc_⟩
set_option maxHeartbeats 1000000 in
theorem do7_c (h : IsDisk w b D F) (d f n : Int) (s : Str) (kv : Value) (hd : d % 8 = 7) :
    Calls Try.prog 12 #[.pointer (some ⟨b, 0, none⟩), .agg #[.int .i64 d, .int .i64 f, .int .i64 n, strV s, kv]] w (DoTo w b F (D.start, 0)) := by
  have hb := bits_7 d
  rw [hd] at hb
  have hb3 := bits_3 n
  have hW := h.only ((Only.refl NoF w).alloc (.cells #[.int .i64 d, .int .i64 f, .int .i64 n, strV s, kv] 33)) fun _ _ h => h
  have hc := (dStart_c hW)
  have Hc := Lib.hid hc
  clear hd h hW hc
  go_enter Try.func12, Try.ntmps12
  go_wp2_with (go_at_call 26; refine Hc.out.mono ?_; rintro e w' ⟨rfl, h1⟩)
  go_ret
  exact ⟨rfl, h1.alloc_⟩
set_option maxHeartbeats 1000000 in
theorem do5_c (h : IsDisk w b D F) (d f n : Int) (s : Str) (kv : Value) {keep : List Int} {S : Nat → Prop} (hk : Ints S w kv keep) (hl : keep.length ≤ 60) (hS : ∀ k, S k → ¬ F.m k) (hn : I64 n) (hd : d % 8 = 5) :
    Calls Try.prog 12 #[.pointer (some ⟨b, 0, none⟩), .agg #[.int .i64 d, .int .i64 f, .int .i64 n, strV s, kv]] w (DoTo w b F ((D.arm n keep), 0)) := by
  have hb := bits_7 d
  rw [hd] at hb
  have ho : Only NoF w (w.alloc (.cells #[.int .i64 d, .int .i64 f, .int .i64 n, strV s, kv] 33)) := (Only.refl NoF w).alloc _
  have hW := h.only ho fun _ _ h => h
  have hkW := hk.only ho fun _ _ h => h
  have hc := (dArm_c hW n hn hkW (by omega))
  have Hc := Lib.hid hc
  clear hd h hW hc hk hkW ho hS
  go_enter Try.func12, Try.ntmps12
  go_wp2_with (go_at_call 27; refine Hc.out.mono ?_; rintro e w' ⟨rfl, h1⟩)
  go_ret
  exact ⟨rfl, h1.alloc_⟩
set_option maxHeartbeats 1000000 in
theorem do6_c (h : IsDisk w b D F) (d f n : Int) (s : Str) (kv : Value) {keep : List Int} {S : Nat → Prop} (hk : Ints S w kv keep) (hl : keep.length ≤ 60) (hS : ∀ k, S k → ¬ F.m k) (hn : I64 n) (hd : d % 8 = 6) :
    Calls Try.prog 12 #[.pointer (some ⟨b, 0, none⟩), .agg #[.int .i64 d, .int .i64 f, .int .i64 n, strV s, kv]] w (DoTo w b F ((D.crash keep), 0)) := by
  have hb := bits_7 d
  rw [hd] at hb
  have ho : Only NoF w (w.alloc (.cells #[.int .i64 d, .int .i64 f, .int .i64 n, strV s, kv] 33)) := (Only.refl NoF w).alloc _
  have hW := h.only ho fun _ _ h => h
  have hkW := hk.only ho fun _ _ h => h
  have hc := (dCrashI_c hW hkW (by omega) hS)
  have Hc := Lib.hid hc
  clear hd h hW hc hk hkW ho hS
  go_enter Try.func12, Try.ntmps12
  go_wp2_with (go_at_call 25; refine Hc.out.mono ?_; rintro e w' ⟨rfl, h1⟩)
  go_ret
  exact ⟨rfl, h1.alloc_⟩

theorem do_c (h : IsDisk w b D F) (a : DAct) {kv : Value} {S : Nat → Prop} (hk : Ints S w kv a.keep) (hn : I64 a.n) (hs : a.small) (hS : ∀ k, S k → ¬ F.m k) :
    Calls Try.prog 12 #[.pointer (some ⟨b, 0, none⟩), .agg #[.int .i64 a.d, .int .i64 a.f, .int .i64 a.n, strV a.s, kv]] w (DoTo w b F (D.step a)) := by
  obtain ⟨s1, s2, _⟩ := hs
  have s3 : a.s.length ≤ 1000000 := by omega
  have h8 : a.d % 8 = 0 ∨ a.d % 8 = 1 ∨ a.d % 8 = 2 ∨ a.d % 8 = 3 ∨ a.d % 8 = 4 ∨ a.d % 8 = 5 ∨ a.d % 8 = 6 ∨ a.d % 8 = 7 := by omega
  rcases h8 with e | e | e | e | e | e | e | e
  · rw [show D.step a = D.write a.f a.n a.s by simp [Dsk.step, e]]; exact do0_c h _ _ _ _ _ hn s3 e
  · rw [show D.step a = D.write a.f a.n a.s by simp [Dsk.step, e]]; exact do1_c h _ _ _ _ _ hn s3 e
  · rw [show D.step a = D.sync a.f by simp [Dsk.step, e]]; exact do2_c h _ _ _ _ _ hn s3 e
  · rw [show D.step a = D.truncate a.f a.n by simp [Dsk.step, e]]; exact do3_c h _ _ _ _ _ hn s3 e
  · rw [show D.step a = (D.lose (a.n % 4), 0) by simp [Dsk.step, e]]; exact do4_c h _ _ _ _ _ e
  · rw [show D.step a = (D.arm a.n a.keep, 0) by simp [Dsk.step, e]]; exact do5_c h _ _ _ _ _ hk s2 hS hn e
  · rw [show D.step a = (D.crash a.keep, 0) by simp [Dsk.step, e]]; exact do6_c h _ _ _ _ _ hk s2 hS hn e
  · rw [show D.step a = (D.start, 0) by simp [Dsk.step, e]]; exact do7_c h _ _ _ _ _ e

end
end Go.Proofs.Ytddmgkppefhlbaa
