/-
  The laws' helper small, walked: it returns true. No condition.
-/
import Derived.Test.YtddmgkppefhlbaaDskL3
namespace Go.Proofs.Ytddmgkppefhlbaa
set_option linter.unusedVariables false
set_option linter.unusedSimpArgs false
set_option linter.unusedSectionVars false
open Go.RowKit

def smD1 : Dsk := (Dsk.init.write 0 0 [97, 98, 99]).1
def smD2 : Dsk := (smD1.sync 0).1
def smD3 : Dsk := (smD2.write 0 1 [88, 89]).1
def smD4 : Dsk := smD3.crash [1]
def smD5 : Dsk := smD4.start
def smC1 : Dsk := smD3.crash [0]
def smC2 : Dsk := smC1.start
def smC3 : Dsk := (smC2.write 1 62 [97, 98, 99, 100]).1
def smC4 : Dsk := smC3.crash [0, 1]
def smC5 : Dsk := smC4.start
def smC6 : Dsk := (smC5.write 16 0 []).1
def smC7 : Dsk := (smC6.write 1 16777216 [97]).1
theorem sm1 : (Dsk.init.write 0 0 [97, 98, 99]).2 = 0 := by decide +kernel
theorem sm2 : (smD1.sync 0).2 = 0 := by decide +kernel
theorem sm3 : (smD2.write 0 1 [88, 89]).2 = 0 := by decide +kernel
theorem sm4 : smD4.down = true := by decide +kernel
theorem sm5 : smD4.read 0 0 9 = ([], 8) := by decide +kernel
theorem sm6 : smD5.read 0 0 9 = ([97, 88, 89], 0) := by decide +kernel
theorem sm7 : smC2.read 0 1 9 = ([98, 99], 0) := by decide +kernel
theorem sm8 : (smC2.write 1 62 [97, 98, 99, 100]).2 = 0 := by decide +kernel
theorem sm9 : smC5.read 1 60 100 = ([0, 0, 0, 0, 99, 100], 0) := by decide +kernel
theorem sm10 : smC5.size 1 = 66 := by decide +kernel
theorem sm11 : (smC5.write 16 0 []).2 = 1 := by decide +kernel
theorem sm12 : (smC6.write 1 16777216 [97]).2 = 6 := by decide +kernel

section
variable {w0 w : World} {d : Nat} {D : Dsk}

/-- the contracts, each at its own result -/
theorem NewDisk.write_ (h : NewDisk w0 d D w) (f a : Int) (s : Str) {r : Int} {D' : Dsk} (hr : (D.write f a s).2 = r) (hD : (D.write f a s).1 = D') (ha : I64 a) (hs : s.length ≤ 1000000) :
    Calls Try.prog 29 #[.pointer (some ⟨d, 0, none⟩), .int .i64 f, .int .i64 a, strV s] w (OnTo w0 d D' (.int .i64 r)) := by
  subst hr; subst hD
  exact h.call fun F i _ => dWrite_c i f a s ha hs
theorem NewDisk.sync_ (h : NewDisk w0 d D w) (f : Int) {r : Int} {D' : Dsk} (hr : (D.sync f).2 = r) (hD : (D.sync f).1 = D') :
    Calls Try.prog 19 #[.pointer (some ⟨d, 0, none⟩), .int .i64 f] w (OnTo w0 d D' (.int .i64 r)) := by
  subst hr; subst hD
  exact h.call fun F i _ => dSync_c i f
theorem NewDisk.truncate_ (h : NewDisk w0 d D w) (f n : Int) {r : Int} {D' : Dsk} (hr : (D.truncate f n).2 = r) (hD : (D.truncate f n).1 = D') (hn : I64 n) :
    Calls Try.prog 30 #[.pointer (some ⟨d, 0, none⟩), .int .i64 f, .int .i64 n] w (OnTo w0 d D' (.int .i64 r)) := by
  subst hr; subst hD
  exact h.call fun F i _ => dTruncate_c i f n hn
theorem NewDisk.start_ (h : NewDisk w0 d D w) {D' : Dsk} (hD : D.start = D') : Calls Try.prog 26 #[.pointer (some ⟨d, 0, none⟩)] w (OnTo w0 d D' (.tuple #[])) := by
  subst hD
  exact h.call fun F i _ => dStart_c i
theorem NewDisk.crash_ (h : NewDisk w0 d D w) {S : Nat → Prop} {v : Value} {keep : List Int} (hk : Ints S w v keep) (hl : keep.length ≤ 1000) (hS : ∀ k, S k → k < w0.heap.size ∨ ∃ cs, Blk w k 3 cs) {D' : Dsk} (hD : D.crash keep = D') :
    Calls Try.prog 25 #[.pointer (some ⟨d, 0, none⟩), v] w (OnTo w0 d D' (.tuple #[])) := by
  subst hD
  refine h.call fun F i hF => dCrashI_c i hk hl fun k hk hm => ?_
  rcases hS k hk with h1 | ⟨cs, h1⟩
  · have := hF k (.inl hm); omega
  · exact i.int_m h1 hm
theorem NewDisk.arm_ (h : NewDisk w0 d D w) (n : Int) (hn : I64 n) {S : Nat → Prop} {v : Value} {keep : List Int} (hk : Ints S w v keep) (hl : keep.length ≤ 1000) {D' : Dsk} (hD : D.arm n keep = D') :
    Calls Try.prog 27 #[.pointer (some ⟨d, 0, none⟩), .int .i64 n, v] w (OnTo w0 d D' (.tuple #[])) := by
  subst hD
  exact h.call fun F i _ => dArm_c i n hn hk hl
theorem NewDisk.down_ (h : NewDisk w0 d D w) {r : Bool} (hr : D.down = r) : Calls Try.prog 14 #[.pointer (some ⟨d, 0, none⟩)] w fun e w' => e = .returned (.bool r) ∧ w = w' := by
  subst hr
  obtain ⟨F, i, _⟩ := h
  exact dDown_c i
theorem NewDisk.size_ (h : NewDisk w0 d D w) (f : Int) {r : Nat} (hr : D.size f = r) : Calls Try.prog 16 #[.pointer (some ⟨d, 0, none⟩), .int .i64 f] w fun e w' => e = .returned (.int .i64 (r : Int)) ∧ w = w' := by
  subst hr
  obtain ⟨F, i, _⟩ := h
  exact dSize_c i f
theorem NewDisk.read_ (h : NewDisk w0 d D w) (f a n : Int) {s : Str} {r : Int} (hr : D.read f a n = (s, r)) (ha : I64 a) (hn : I64 n) :
    Calls Try.prog 20 #[.pointer (some ⟨d, 0, none⟩), .int .i64 f, .int .i64 a, .int .i64 n] w fun e w' => e = .returned (.tuple #[strV s, .int .i64 r]) ∧ w = w' := by
  obtain ⟨F, i, _⟩ := h
  have := dRead_c i f a n ha hn
  rw [hr] at this
  exact this
theorem NewDisk.alloc_ (h : NewDisk w0 d D w) (o : Obj) : NewDisk w0 d D (w.alloc o) := by
  obtain ⟨F, i, o1, f⟩ := h
  exact ⟨F, i.only ((Only.refl NoF w).alloc o) fun _ _ h => h, o1.alloc o, f⟩
end

section
variable {w0 w : World} {d c : Nat} {D C : Dsk}
theorem Two.crash_ (h : Two w0 d D c C w) {S : Nat → Prop} {v : Value} {keep : List Int} (hk : Ints S w v keep) (hl : keep.length ≤ 1000) (hS : ∀ k, S k → k < w0.heap.size ∨ ∃ cs, Blk w k 3 cs) {D' : Dsk} (hD : D.crash keep = D') :
    Calls Try.prog 25 #[.pointer (some ⟨d, 0, none⟩), v] w (OneTo w0 d D' c C (.tuple #[])) := by
  subst hD
  refine h.call fun F i hF => dCrashI_c i hk hl fun k hk hm => ?_
  rcases hS k hk with h1 | ⟨cs, h1⟩
  · have := hF k (.inl hm); omega
  · exact i.int_m h1 hm
theorem Two.start_ (h : Two w0 d D c C w) {D' : Dsk} (hD : D.start = D') : Calls Try.prog 26 #[.pointer (some ⟨d, 0, none⟩)] w (OneTo w0 d D' c C (.tuple #[])) := by
  subst hD
  exact h.call fun F i _ => dStart_c i
end

/-- the ints of a block that was just made -/
theorem ints_new (w : World) (l : List Int) (hl : l.length ≤ 1000) (h : ∀ n ∈ l, I64 n) : Ints (fun k => k = w.heap.size) (w.alloc (.cells (l.map (Value.int .i64)).toArray 3)) (.slice (some ⟨w.heap.size, 0, none⟩) l.length l.length) l := by
  refine ⟨_, _, l.map (Value.int .i64), rfl, Nat.le_refl _, by unfold maxLen; omega, ⟨by simp, fun _ => ⟨_, rfl, rfl, by simp, fun j u hu => ?_⟩⟩, fun i x hx => ?_⟩
  · rw [Addr.add_lit, (Blk.new w 3 (l.map (Value.int .i64)).toArray).cell]
    simpa using hu
  · refine ⟨?_, h x (List.mem_of_getElem? hx)⟩
    apply List.ext_getElem?
    intro j
    rw [List.getElem?_take]
    cases j with
    | zero => simp [hx]
    | succ j => simp
theorem ints_new_blk (w : World) (cs : Array Value) (m : Nat) : ∀ k, k = w.heap.size → k < m ∨ ∃ cs', Blk (w.alloc (.cells cs 3)) k 3 cs' := by
  rintro k rfl
  exact .inr ⟨cs, Blk.new w 3 cs⟩

def SmallTo (w : World) (e : Ending) (w' : World) : Prop := e = .returned (.bool true) ∧ Only NoF w w'

set_option maxRecDepth 100000 in
set_option maxHeartbeats 2000000 in
theorem small_c (w : World) : Calls Try.prog 8 #[] w (SmallTo w) := by
  go_enter Try.func8, Try.ntmps8
  go_wp2_with fail
  refine (dNew_c w).mono ?_
  rintro e w1 ⟨d, rfl, hn⟩
  go_wp2_with fail
  refine (hn.write_ 0 0 [97, 98, 99] sm1 (D' := smD1) rfl (by unfold I64; omega) (by decide)).mono ?_
  rintro e w2 ⟨rfl, h2⟩
  go_wp2_with fail
  refine (h2.sync_ 0 sm2 (D' := smD2) rfl).mono ?_
  rintro e w3 ⟨rfl, h3⟩
  go_wp2_with fail
  refine (h3.write_ 0 1 [88, 89] sm3 (D' := smD3) rfl (by unfold I64; omega) (by decide)).mono ?_
  rintro e w4 ⟨rfl, h4⟩
  go_wp2_with fail
  refine (h4.copy).mono ?_
  rintro e w5 ⟨c, rfl, h5⟩
  go_wp2_with fail
  refine ((h5.alloc (.cells #[.int .i64 1] 3)).crash_ (ints_new w5 [1] (by decide) (by simp [I64])) (by decide) (ints_new_blk w5 #[.int .i64 1] _) (D' := smD4) rfl).mono ?_
  rintro e w6 ⟨rfl, h6⟩
  go_wp2_with fail
  refine (h6.first.down_ sm4).mono ?_
  rintro e w' ⟨rfl, rfl⟩
  go_wp2_with fail
  refine (h6.first.read_ 0 0 9 sm5 (by unfold I64; omega) (by unfold I64; omega)).mono ?_
  rintro e w' ⟨rfl, rfl⟩
  go_wp2_with fail
  refine (h6.start_ (D' := smD5) rfl).mono ?_
  rintro e w7 ⟨rfl, h7⟩
  go_wp2_with fail
  refine (h7.first.read_ 0 0 9 sm6 (by unfold I64; omega) (by unfold I64; omega)).mono ?_
  rintro e w' ⟨rfl, rfl⟩
  go_wp2_with fail
  have k7 := h7.swap.first
  refine ((k7.alloc_ (.cells #[.int .i64 0] 3)).crash_ (ints_new w7 [0] (by decide) (by simp [I64])) (by decide) (ints_new_blk w7 #[.int .i64 0] _) (D' := smC1) rfl).mono ?_
  rintro e w8 ⟨rfl, h8⟩
  go_wp2_with fail
  refine (h8.start_ (D' := smC2) rfl).mono ?_
  rintro e w9 ⟨rfl, h9⟩
  go_wp2_with fail
  refine (h9.read_ 0 1 9 sm7 (by unfold I64; omega) (by unfold I64; omega)).mono ?_
  rintro e w' ⟨rfl, rfl⟩
  go_wp2_with fail
  refine (h9.write_ 1 62 [97, 98, 99, 100] sm8 (D' := smC3) rfl (by unfold I64; omega) (by decide)).mono ?_
  rintro e w10 ⟨rfl, h10⟩
  go_wp2_with fail
  refine ((h10.alloc_ (.cells #[.int .i64 0, .int .i64 1] 3)).crash_ (ints_new w10 [0, 1] (by decide) (by simp [I64])) (by decide) (ints_new_blk w10 #[.int .i64 0, .int .i64 1] _) (D' := smC4) rfl).mono ?_
  rintro e w11 ⟨rfl, h11⟩
  go_wp2_with fail
  refine (h11.start_ (D' := smC5) rfl).mono ?_
  rintro e w12 ⟨rfl, h12⟩
  go_wp2_with fail
  refine (h12.read_ 1 60 100 sm9 (by unfold I64; omega) (by unfold I64; omega)).mono ?_
  rintro e w' ⟨rfl, rfl⟩
  go_wp2_with fail
  refine (h12.size_ 1 sm10).mono ?_
  rintro e w' ⟨rfl, rfl⟩
  go_wp2_with fail
  refine (h12.write_ 16 0 [] sm11 (D' := smC6) rfl (by unfold I64; omega) (by decide)).mono ?_
  rintro e w13 ⟨rfl, h13⟩
  go_wp2_with fail
  refine (h13.write_ 1 16777216 [97] sm12 (D' := smC7) rfl (by unfold I64; omega) (by decide)).mono ?_
  rintro e w14 ⟨rfl, h14⟩
  go_wp2_with fail
  obtain ⟨F, _, ho, _⟩ := h14
  go_ret
  exact ⟨rfl, ho⟩
end Go.Proofs.Ytddmgkppefhlbaa
