/-
  The laws' helper tell, walked: an act on the reference's disk; two things in memory side by side. Condition: the act is within the bounds of few.
-/
import Derived.Test.YtddmgkppefhlbaaRefW9
import Derived.Test.YtddmgkppefhlbaaDskSync
namespace Go.Proofs.Ytddmgkppefhlbaa
set_option linter.unusedVariables false
set_option linter.unusedSimpArgs false
set_option linter.unusedSectionVars false
open Go.RowKit

section
variable {w : World} {b : Nat} {D : Dsk} {F : Foot}
theorem RefTo.alloc_ {o : Obj} {D' : Dsk} {w' : World} (h : RefTo (w.alloc o) b F D' w') : RefTo w b F D' w' :=
  RefTo.trans ((Only.refl F.m w).alloc o) (fun _ hk => .inl hk) (fun _ hk => .inl hk) h
def TellTo (w : World) (b : Nat) (F : Foot) (p : Dsk × Int) (e : Ending) (w' : World) : Prop := e = .returned (.int .i64 p.2) ∧ RefTo w b F p.1 w'

set_option maxHeartbeats 1000000 in
theorem tell2_c (h : IsRef w b D F) (d f n : Int) (s : Str) (kv : Value) (hn : I64 n) (hs : s.length ≤ 1000000) (hd : d % 8 = 2) :
    Calls Try.prog 13 #[.pointer (some ⟨b, 0, none⟩), .agg #[.int .i64 d, .int .i64 f, .int .i64 n, strV s, kv]] w (TellTo w b F (D.sync f)) := by
  have hb := bits_7 d
  rw [hd] at hb
  have hW := h.only ((Only.refl NoF w).alloc (.cells #[.int .i64 d, .int .i64 f, .int .i64 n, strV s, kv] 33)) fun _ _ h => h
  have hc := (rSync_c hW f)
  have Hc := Lib.hid hc
  clear hd h hW hc
  go_enter Try.func13, Try.ntmps13
  go_wp2_with (go_at_call 32; refine Hc.out.mono ?_; rintro e w' ⟨rfl, h1⟩)
  go_ret
  exact ⟨rfl, h1.alloc_⟩
set_option maxHeartbeats 1000000 in
theorem tell3_c (h : IsRef w b D F) (d f n : Int) (s : Str) (kv : Value) (hn : I64 n) (hs : s.length ≤ 1000000) (hd : d % 8 = 3) :
    Calls Try.prog 13 #[.pointer (some ⟨b, 0, none⟩), .agg #[.int .i64 d, .int .i64 f, .int .i64 n, strV s, kv]] w (TellTo w b F (D.truncate f n)) := by
  have hb := bits_7 d
  rw [hd] at hb
  have hW := h.only ((Only.refl NoF w).alloc (.cells #[.int .i64 d, .int .i64 f, .int .i64 n, strV s, kv] 33)) fun _ _ h => h
  have hc := (rTruncate_c hW f n hn)
  have Hc := Lib.hid hc
  clear hd h hW hc
  go_enter Try.func13, Try.ntmps13
  go_wp2_with (go_at_call 33; refine Hc.out.mono ?_; rintro e w' ⟨rfl, h1⟩)
  go_ret
  exact ⟨rfl, h1.alloc_⟩
set_option maxHeartbeats 1000000 in
theorem tell0_c (h : IsRef w b D F) (d f n : Int) (s : Str) (kv : Value) (hn : I64 n) (hs : s.length ≤ 1000000) (hd : d % 8 = 0) :
    Calls Try.prog 13 #[.pointer (some ⟨b, 0, none⟩), .agg #[.int .i64 d, .int .i64 f, .int .i64 n, strV s, kv]] w (TellTo w b F (D.write f n s)) := by
  have hb := bits_7 d
  rw [hd] at hb
  have hW := h.only ((Only.refl NoF w).alloc (.cells #[.int .i64 d, .int .i64 f, .int .i64 n, strV s, kv] 33)) fun _ _ h => h
  have hc := (rWrite_c hW f n s hn hs)
  have Hc := Lib.hid hc
  clear hd h hW hc
  go_enter Try.func13, Try.ntmps13
  go_wp2_with (go_at_call 38; refine Hc.out.mono ?_; rintro e w' ⟨rfl, h1⟩)
  go_ret
  exact ⟨rfl, h1.alloc_⟩
set_option maxHeartbeats 1000000 in
theorem tell1_c (h : IsRef w b D F) (d f n : Int) (s : Str) (kv : Value) (hn : I64 n) (hs : s.length ≤ 1000000) (hd : d % 8 = 1) :
    Calls Try.prog 13 #[.pointer (some ⟨b, 0, none⟩), .agg #[.int .i64 d, .int .i64 f, .int .i64 n, strV s, kv]] w (TellTo w b F (D.write f n s)) := by
  have hb := bits_7 d
  rw [hd] at hb
  have hW := h.only ((Only.refl NoF w).alloc (.cells #[.int .i64 d, .int .i64 f, .int .i64 n, strV s, kv] 33)) fun _ _ h => h
  have hc := (rWrite_c hW f n s hn hs)
  have Hc := Lib.hid hc
  clear hd h hW hc
  go_enter Try.func13, Try.ntmps13
  go_wp2_with (go_at_call 38; refine Hc.out.mono ?_; rintro e w' ⟨rfl, h1⟩)
  go_ret
  exact ⟨rfl, h1.alloc_⟩
set_option maxHeartbeats 1000000 in
theorem tell4_c (h : IsRef w b D F) (d f n : Int) (s : Str) (kv : Value) (hd : d % 8 = 4) :
    Calls Try.prog 13 #[.pointer (some ⟨b, 0, none⟩), .agg #[.int .i64 d, .int .i64 f, .int .i64 n, strV s, kv]] w (TellTo w b F ((D.lose (n % 4)), 0)) := by
  have hb := bits_7 d
  rw [hd] at hb
  have hb3 := bits_3 n
  have hW := h.only ((Only.refl NoF w).alloc (.cells #[.int .i64 d, .int .i64 f, .int .i64 n, strV s, kv] 33)) fun _ _ h => h
  have hc := (rLose_c hW (n % 4) (by unfold I64; omega))
  have Hc := Lib.hid hc
  clear hd h hW hc
  go_enter Try.func13, Try.ntmps13
  go_wp2_with (go_at_call 34; refine Hc.out.mono ?_; rintro e w' ⟨rfl, h1⟩)
  go_ret
  exact ⟨rfl, h1.alloc_⟩
set_option maxHeartbeats 1000000 in
theorem tell7_c (h : IsRef w b D F) (d f n : Int) (s : Str) (kv : Value) (hd : d % 8 = 7) :
    Calls Try.prog 13 #[.pointer (some ⟨b, 0, none⟩), .agg #[.int .i64 d, .int .i64 f, .int .i64 n, strV s, kv]] w (TellTo w b F (D.start, 0)) := by
  have hb := bits_7 d
  rw [hd] at hb
  have hb3 := bits_3 n
  have hW := h.only ((Only.refl NoF w).alloc (.cells #[.int .i64 d, .int .i64 f, .int .i64 n, strV s, kv] 33)) fun _ _ h => h
  have hc := (rStart_c hW)
  have Hc := Lib.hid hc
  clear hd h hW hc
  go_enter Try.func13, Try.ntmps13
  go_wp2_with (go_at_call 37; refine Hc.out.mono ?_; rintro e w' ⟨rfl, h1⟩)
  go_ret
  exact ⟨rfl, h1.alloc_⟩
set_option maxHeartbeats 1000000 in
theorem tell5_c (h : IsRef w b D F) (d f n : Int) (s : Str) (kv : Value) {keep : List Int} {S : Nat → Prop} (hk : Ints S w kv keep) (hl : keep.length ≤ 60) (hS : ∀ k, S k → ¬ F.m k) (hn : I64 n) (hd : d % 8 = 5) :
    Calls Try.prog 13 #[.pointer (some ⟨b, 0, none⟩), .agg #[.int .i64 d, .int .i64 f, .int .i64 n, strV s, kv]] w (TellTo w b F ((D.arm n keep), 0)) := by
  have hb := bits_7 d
  rw [hd] at hb
  have ho : Only NoF w (w.alloc (.cells #[.int .i64 d, .int .i64 f, .int .i64 n, strV s, kv] 33)) := (Only.refl NoF w).alloc _
  have hbm : ∀ k, k = b → F.m k := by obtain ⟨x, _, rfl⟩ := h; exact fun k e => .inl e
  have hW := h.only ho fun _ _ h => h
  have hkW := hk.only ho fun _ _ h => h
  have hc := (rArm_c hW n hn hkW (by omega) fun k hk e => hS k hk (hbm k e))
  have Hc := Lib.hid hc
  clear hd h hW hc hk hkW ho hS hbm
  go_enter Try.func13, Try.ntmps13
  go_wp2_with (go_at_call 35; refine Hc.out.mono ?_; rintro e w' ⟨rfl, h1⟩)
  go_ret
  exact ⟨rfl, h1.alloc_⟩
set_option maxHeartbeats 1000000 in
theorem tell6_c (h : IsRef w b D F) (d f n : Int) (s : Str) (kv : Value) {keep : List Int} {S : Nat → Prop} (hk : Ints S w kv keep) (hl : keep.length ≤ 60) (hS : ∀ k, S k → ¬ F.m k) (hn : I64 n) (hd : d % 8 = 6) :
    Calls Try.prog 13 #[.pointer (some ⟨b, 0, none⟩), .agg #[.int .i64 d, .int .i64 f, .int .i64 n, strV s, kv]] w (TellTo w b F ((D.crash keep), 0)) := by
  have hb := bits_7 d
  rw [hd] at hb
  have ho : Only NoF w (w.alloc (.cells #[.int .i64 d, .int .i64 f, .int .i64 n, strV s, kv] 33)) := (Only.refl NoF w).alloc _
  have hbm : ∀ k, k = b → F.m k := by obtain ⟨x, _, rfl⟩ := h; exact fun k e => .inl e
  have hW := h.only ho fun _ _ h => h
  have hkW := hk.only ho fun _ _ h => h
  have hc := (rCrash_c hW hkW (by omega) hS)
  have Hc := Lib.hid hc
  clear hd h hW hc hk hkW ho hS hbm
  go_enter Try.func13, Try.ntmps13
  go_wp2_with (go_at_call 36; refine Hc.out.mono ?_; rintro e w' ⟨rfl, h1⟩)
  go_ret
  exact ⟨rfl, h1.alloc_⟩

theorem tell_c (h : IsRef w b D F) (a : DAct) {kv : Value} {S : Nat → Prop} (hk : Ints S w kv a.keep) (hn : I64 a.n) (hs : a.small) (hS : ∀ k, S k → ¬ F.m k) :
    Calls Try.prog 13 #[.pointer (some ⟨b, 0, none⟩), .agg #[.int .i64 a.d, .int .i64 a.f, .int .i64 a.n, strV a.s, kv]] w (TellTo w b F (D.step a)) := by
  obtain ⟨s1, s2, _⟩ := hs
  have s3 : a.s.length ≤ 1000000 := by omega
  have h8 : a.d % 8 = 0 ∨ a.d % 8 = 1 ∨ a.d % 8 = 2 ∨ a.d % 8 = 3 ∨ a.d % 8 = 4 ∨ a.d % 8 = 5 ∨ a.d % 8 = 6 ∨ a.d % 8 = 7 := by omega
  rcases h8 with e | e | e | e | e | e | e | e
  · rw [show D.step a = D.write a.f a.n a.s by simp [Dsk.step, e]]; exact tell0_c h _ _ _ _ _ hn s3 e
  · rw [show D.step a = D.write a.f a.n a.s by simp [Dsk.step, e]]; exact tell1_c h _ _ _ _ _ hn s3 e
  · rw [show D.step a = D.sync a.f by simp [Dsk.step, e]]; exact tell2_c h _ _ _ _ _ hn s3 e
  · rw [show D.step a = D.truncate a.f a.n by simp [Dsk.step, e]]; exact tell3_c h _ _ _ _ _ hn s3 e
  · rw [show D.step a = (D.lose (a.n % 4), 0) by simp [Dsk.step, e]]; exact tell4_c h _ _ _ _ _ e
  · rw [show D.step a = (D.arm a.n a.keep, 0) by simp [Dsk.step, e]]; exact tell5_c h _ _ _ _ _ hk s2 hS hn e
  · rw [show D.step a = (D.crash a.keep, 0) by simp [Dsk.step, e]]; exact tell6_c h _ _ _ _ _ hk s2 hS hn e
  · rw [show D.step a = (D.start, 0) by simp [Dsk.step, e]]; exact tell7_c h _ _ _ _ _ e
end

/-! ### Two things in memory side by side -/
abbrev Thing := World → Foot → Prop
structure Good (X : Thing) : Prop where
  only : ∀ {w w' : World} {F : Foot} {G : Nat → Prop}, X w F → Only G w w' → (∀ k, F.all k → ¬ G k) → X w' F
  lt : ∀ {w : World} {F : Foot}, X w F → ∀ k, F.all k → k < w.heap.size
/-- behind a call that may write the thing alone -/
def ThingTo (X' : Thing) (w : World) (F : Foot) (w' : World) : Prop := ∃ F', X' w' F' ∧ Only F.m w w' ∧ (∀ k, F'.m k → F.m k ∨ w.heap.size ≤ k) ∧ ∀ k, F'.r k → F.r k ∨ w.heap.size ≤ k
def Duo (w0 : World) (X Y : Thing) (w : World) : Prop :=
  ∃ F G, X w F ∧ Y w G ∧ Only NoF w0 w ∧ (∀ k, F.all k → w0.heap.size ≤ k) ∧ (∀ k, G.all k → w0.heap.size ≤ k) ∧ (∀ k, F.m k → ¬ G.all k) ∧ ∀ k, G.m k → ¬ F.all k

section
variable {w0 w w1 : World} {X X' Y Y' : Thing}
theorem Duo.swap (h : Duo w0 X Y w) : Duo w0 Y X w := by
  obtain ⟨F, G, h1, h2, h3, h4, h5, h6, h7⟩ := h
  exact ⟨G, F, h2, h1, h3, h5, h4, h7, h6⟩
theorem Duo.out (h : Duo w0 X Y w) : Only NoF w0 w := by
  obtain ⟨F, G, h1, h2, h3, h4, h5, h6, h7⟩ := h
  exact h3
theorem Duo.keep (gX : Good X) (gY : Good Y) (h : Duo w0 X Y w) (ho : Only NoF w w1) : Duo w0 X Y w1 := by
  obtain ⟨F, G, h1, h2, h3, h4, h5, h6, h7⟩ := h
  exact ⟨F, G, gX.only h1 ho fun _ _ h => h, gY.only h2 ho fun _ _ h => h, h3.trans' ho, h4, h5, h6, h7⟩
theorem Duo.left (gY : Good Y) {F G : Foot} (h2 : Y w G) (h3 : Only NoF w0 w) (h4 : ∀ k, F.all k → w0.heap.size ≤ k) (h5 : ∀ k, G.all k → w0.heap.size ≤ k) (h6 : ∀ k, F.m k → ¬ G.all k) (h7 : ∀ k, G.m k → ¬ F.all k) (ht : ThingTo X' w F w1) : Duo w0 X' Y w1 := by
  obtain ⟨F', i, o, f, r⟩ := ht
  have hs := h3.size
  have hlt := gY.lt h2
  refine ⟨F', G, i, gY.only h2 o fun k hg hf => h6 k hf hg, h3.trans o fun k hk => .inr (h4 k (.inl hk)), fun k hk => ?_, h5, fun k hk hg => ?_, fun k hk hf => ?_⟩
  · rcases hk with hk | hk
    · rcases f k hk with h | h
      · exact h4 k (.inl h)
      · omega
    · rcases r k hk with h | h
      · exact h4 k (.inr h)
      · omega
  · have := hlt k hg
    rcases f k hk with h | h
    · exact h6 k h hg
    · omega
  · have := hlt k (.inl hk)
    rcases hf with hf | hf
    · rcases f k hf with h | h
      · exact h7 k hk (.inl h)
      · omega
    · rcases r k hf with h | h
      · exact h7 k hk (.inr h)
      · omega
def DuoTo (w0 : World) (X Y : Thing) (u : Value) (e : Ending) (w' : World) : Prop := e = .returned u ∧ Duo w0 X Y w'
theorem Duo.call (gY : Good Y) (h : Duo w0 X Y w) {f : FuncId} {args : Array Value} {u : Value} (hc : ∀ F, X w F → (∀ k, F.all k → w0.heap.size ≤ k) → Calls Try.prog f args w fun e w' => e = .returned u ∧ ThingTo X' w F w') :
    Calls Try.prog f args w (DuoTo w0 X' Y u) := by
  obtain ⟨F, G, h1, h2, h3, h4, h5, h6, h7⟩ := h
  exact (hc F h1 h4).mono fun e w' ⟨he, ht⟩ => ⟨he, Duo.left gY h2 h3 h4 h5 h6 h7 ht⟩
theorem Duo.calr (gX : Good X) (h : Duo w0 X Y w) {f : FuncId} {args : Array Value} {u : Value} (hc : ∀ F, Y w F → (∀ k, F.all k → w0.heap.size ≤ k) → Calls Try.prog f args w fun e w' => e = .returned u ∧ ThingTo Y' w F w') :
    Calls Try.prog f args w (DuoTo w0 X Y' u) := (h.swap.call gX hc).mono fun _ _ ⟨he, ht⟩ => ⟨he, ht.swap⟩

/-- two things as one -/
def BothT (X Y : Thing) : Thing := fun w G => ∃ G1 G2 : Foot, X w G1 ∧ Y w G2 ∧ (∀ k, G1.m k → ¬ G2.all k) ∧ (∀ k, G2.m k → ¬ G1.all k) ∧ G = ⟨fun k => G1.m k ∨ G2.m k, fun k => G1.r k ∨ G2.r k⟩
theorem BothT.good (gX : Good X) (gY : Good Y) : Good (BothT X Y) where
  only := by
    rintro w w' F G ⟨G1, G2, h1, h2, h3, h4, rfl⟩ ho hG
    exact ⟨G1, G2, gX.only h1 ho fun k hk => hG k (hk.elim (fun h => .inl (.inl h)) (fun h => .inr (.inl h))), gY.only h2 ho fun k hk => hG k (hk.elim (fun h => .inl (.inr h)) (fun h => .inr (.inr h))), h3, h4, rfl⟩
  lt := by
    rintro w F ⟨G1, G2, h1, h2, h3, h4, rfl⟩ k hk
    rcases hk with (hk | hk) | (hk | hk)
    · exact gX.lt h1 k (.inl hk)
    · exact gY.lt h2 k (.inl hk)
    · exact gX.lt h1 k (.inr hk)
    · exact gY.lt h2 k (.inr hk)
end

abbrev DiskT (b : Nat) (D : Dsk) : Thing := fun w F => IsDisk w b D F
abbrev RefT (b : Nat) (D : Dsk) : Thing := fun w F => IsRef w b D F
theorem diskT_good (b : Nat) (D : Dsk) : Good (DiskT b D) := ⟨fun h ho hG => IsDisk.only h ho hG, fun h => IsDisk.lt h⟩
theorem refT_good (b : Nat) (D : Dsk) : Good (RefT b D) := ⟨fun h ho hG => IsRef.only h ho hG, fun h => by obtain ⟨x, i, rfl⟩ := h; exact i.foot_lt⟩
end Go.Proofs.Ytddmgkppefhlbaa
