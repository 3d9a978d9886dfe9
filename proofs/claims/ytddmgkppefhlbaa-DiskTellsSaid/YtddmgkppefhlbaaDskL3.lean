/-
  The laws' helpers played, after, byteAt, walked; two disks side by side. No condition beyond that the arguments lie in memory.
-/
import Derived.Test.YtddmgkppefhlbaaDskL2
namespace Go.Proofs.Ytddmgkppefhlbaa
set_option linter.unusedVariables false
set_option linter.unusedSimpArgs false
set_option linter.unusedSectionVars false
open Go.RowKit

section
variable {w : World} {S : Nat → Prop} {v : Value} {l : List DAct}

/-- the five cells of an act, by its number, in whatever world comes behind -/
theorem Acts.form5w (h : Acts S w v l) (hl : 0 < l.length) :
    ∃ b off cap, v = .slice (some ⟨b, off, none⟩) l.length cap ∧ l.length ≤ cap ∧ cap ≤ maxLen ∧
      ∀ i (hi : i < l.length), ∃ A kc, l[i].keep.length ≤ kc ∧ kc ≤ maxLen ∧ I64 l[i].d ∧ I64 l[i].f ∧ I64 l[i].n ∧ l[i].s.length ≤ maxLen ∧
        ∀ w', Only NoF w w' → Ints S w' (.slice A l[i].keep.length kc) l[i].keep ∧
        w'.cell? ⟨b, off + i * 5, none⟩ = some (.int .i64 l[i].d) ∧ w'.cell? ⟨b, off + i * 5 + 1, none⟩ = some (.int .i64 l[i].f) ∧ w'.cell? ⟨b, off + i * 5 + 2, none⟩ = some (.int .i64 l[i].n) ∧
        w'.cell? ⟨b, off + i * 5 + 3, none⟩ = some (strV l[i].s) ∧ w'.cell? ⟨b, off + i * 5 + 4, none⟩ = some (.slice A l[i].keep.length kc) := by
  obtain ⟨b, off, cap, e, h1, h2, h3, h4, h5⟩ := h.form5 hl
  refine ⟨b, off, cap, e, h1, h2, fun i hi => ?_⟩
  obtain ⟨A, kc, g1, g2, g3, g4, g5, g6, g7, c0, c1, c2, c3, c4⟩ := h5 i hi
  refine ⟨A, kc, g1, g2, g4, g5, g6, g7, fun w' ho => ?_⟩
  have e := fun (o : Nat) => ho.cell (p := ⟨b, o, none⟩) h4 id
  exact ⟨g3.only ho fun _ _ h => h, (e _).trans c0, (e _).trans c1, (e _).trans c2, (e _).trans c3, (e _).trans c4⟩

theorem NewDisk.next {w0 w1 w2 : World} {b : Nat} {D' : Dsk} {F : Foot} (ho : Only NoF w0 w1) (hF : ∀ k, F.all k → w0.heap.size ≤ k) (h : DiskTo w1 b F D' w2) : NewDisk w0 b D' w2 := by
  obtain ⟨F', i, o, f, r⟩ := h
  have hs := ho.size
  refine ⟨F', i, ho.trans o fun k hk => .inr (hF k (.inl hk)), fun k hk => ?_⟩
  rcases hk with hk | hk
  · rcases f k hk with h1 | h1
    · exact hF k (.inl h1)
    · omega
  · rcases r k hk with h1 | h1
    · exact hF k (.inr h1)
    · omega

def PlayedTo (w : World) (D : Dsk) (e : Ending) (w' : World) : Prop := ∃ b, e = .returned (.pointer (some ⟨b, 0, none⟩)) ∧ NewDisk w b D w'

theorem steps_take {l : List DAct} {k : Nat} (hk : k < l.length) : Dsk.init.steps (l.take (k + 1)) = ((Dsk.init.steps (l.take k)).step l[k]).1 := by
  rw [List.take_succ_eq_append_getElem hk, Dsk.steps_snoc]

set_option maxHeartbeats 1000000 in
theorem played_c (h : Acts S w v l) (hS : ∀ k, S k → k < w.heap.size) (hl : ∀ a ∈ l, a.small) : Calls Try.prog 22 #[v] w (PlayedTo w (Dsk.init.steps l)) := by
  by_cases hl0 : 0 < l.length
  · obtain ⟨b, off, cap, rfl, h1, h2, h5⟩ := h.form5w hl0
    have H5 := Lib.hid h5
    have HL := Lib.hid hl
    unfold maxLen at h2
    clear h5 h hl
    go_enter Try.func22, Try.ntmps22
    go_wp2_with (go_at_call 10; refine (dNew_c _).mono ?_; rintro e w1 ⟨d, rfl, hn⟩)
    have HN := Lib.hid hn
    clear hn
    go_loopw [4] (fun i wr => ∃ k : Nat, k ≤ l.length ∧ i = .int .i64 (k : Int) ∧ NewDisk w d (Dsk.init.steps (l.take k)) wr) (fun i _ => l.length - (intOf i).toNat)
    case atStart => exact ⟨0, by omega, by go_num, HN.out⟩
    case round =>
      obtain ⟨k, hk, rfl, F, hD, ho, hF⟩ := hrel
      by_cases hlt : k < l.length
      · obtain ⟨A, kc, g1, g2, g4, g5, g6, g7, hw⟩ := H5.out k hlt
        obtain ⟨g3, c0, c1, c2, c3, c4⟩ := hw _ ho
        unfold maxLen at g2 g7
        have hc := do_c hD l[k] g3 g6 (HL.out _ (List.getElem_mem hlt)) fun j hj hm => by
          have := hS j hj
          have := hF j (.inl hm)
          omega
        have HO := Lib.hid (And.intro ho hF)
        have HC := Lib.hid hc
        clear hw g3 hD ho hF hc
        go_wp2_with (go_at_call 12; refine HC.out.mono ?_; rintro e w2 ⟨rfl, h2'⟩)
        go_roundw
        case rel => exact ⟨k + 1, by omega, by go_num, by rw [steps_take hlt]; exact NewDisk.next HO.out.1 HO.out.2 h2'⟩
        case measure => simp [intOf]; omega
      · obtain rfl : k = l.length := by omega
        have HH := Lib.hid (show NewDisk w d (Dsk.init.steps l) wr from ⟨F, by rw [List.take_length] at hD; exact hD, ho, hF⟩)
        clear hD ho hF
        go_wp2
        go_ret
        exact ⟨d, rfl, HH.out⟩
  · obtain rfl : l = [] := List.eq_nil_of_length_eq_zero (by omega)
    obtain ⟨A, cap, rfl, _, _⟩ := SliceOf.shape h
    clear h hl0 hl
    go_enter Try.func22, Try.ntmps22
    go_wp2_with (go_at_call 10; refine (dNew_c _).mono ?_; rintro e w1 ⟨d, rfl, hn⟩)
    have HN := Lib.hid hn
    clear hn
    go_loop [4] (fun i => i = .int .i64 0) (fun i => 0)
    case atStart => rfl
    case round =>
      subst hrel
      go_wp2
      go_ret
      exact ⟨d, rfl, HN.out⟩

/-! ### blocks of ints are none of a disk's -/
theorem IsDisk.int_m {b k : Nat} {D : Dsk} {F : Foot} {cs : Array Value} (h : IsDisk w b D F) (hb : Blk w k 3 cs) : ¬ F.m k := by
  obtain ⟨x, h, rfl⟩ := h
  rintro (e | e | e | e | e)
  · subst e; exact h.blk.ne_ hb (by decide) rfl
  · subst e; exact map_ne_blk h.fm hb rfl
  · subst e; exact map_ne_blk h.sm hb rfl
  · obtain ⟨cur, hc⟩ := own_type h.own k e
    exact hc.ne_ hb (by decide) rfl
  · exact e
theorem IsDisk.mr {b k : Nat} {D : Dsk} {F : Foot} (h : IsDisk w b D F) (hm : F.m k) : ¬ F.r k := by
  intro hr
  obtain ⟨x, h, rfl⟩ := h
  obtain ⟨cur, hc⟩ := own_type h.kpo k hr
  exact IsDisk.int_m ⟨x, h, rfl⟩ hc hm

/-! ### after -/
def AfterTo (w : World) (r : Str × Int) (e : Ending) (w' : World) : Prop := e = .returned (.tuple #[strV r.1, .bool (r.2 == 0)]) ∧ Only NoF w w'

set_option maxHeartbeats 1000000 in
theorem after_c {b : Nat} {D : Dsk} {F : Foot} (h : IsDisk w b D F) (f : Int) {keep : List Int} (hk : Ints S w v keep) (hS : ∀ k, S k → k < w.heap.size) (hl : keep.length ≤ 1000) :
    Calls Try.prog 23 #[.pointer (some ⟨b, 0, none⟩), .int .i64 f, v] w (AfterTo w ((D.crash keep).start.read f 0 16777216)) := by
  have hc := dCopy_c h
  have HK := Lib.hid hk
  have HC := Lib.hid hc
  clear h hk hc
  go_enter Try.func23, Try.ntmps23
  go_wp2_with (go_at_call 18; refine HC.out.mono ?_; rintro e w1 ⟨c, G, rfl, i1, o1, f1, r1⟩; have hcr := dCrashI_c i1 (HK.out.only o1 fun _ _ h => h) hl (fun j hj hm => by have := hS j hj; have := f1 j hm; omega); have O1 := Lib.hid (And.intro o1 f1); have HCR := Lib.hid hcr; clear o1 f1 r1 i1 hcr)
  go_wp2_with (go_at_call 25; refine HCR.out.mono ?_; rintro e w2 ⟨rfl, G2, i2, o2, f2, r2⟩; have hst := Lib.hid (dStart_c i2); have O2 := Lib.hid (And.intro (O1.out.1.trans o2 fun k hk => .inr (O1.out.2 k hk)) (show ∀ k, G2.m k → w.heap.size ≤ k from fun k hk => (f2 k hk).elim (O1.out.2 k) (fun h => Nat.le_trans O1.out.1.size h))); clear o2 f2 r2 i2)
  go_wp2_with (go_at_call 26; refine hst.out.mono ?_; rintro e w3 ⟨rfl, G3, i3, o3, f3, r3⟩; have hrd := Lib.hid (dRead_c i3 f 0 16777216 (by unfold I64; omega) (by unfold I64; omega)); have O3 := Lib.hid (O2.out.1.trans o3 fun k hk => .inr (O2.out.2 k hk)); clear o3 f3 r3 i3)
  go_wp2_with (go_at_call 20; refine hrd.out.mono ?_; rintro e w4 ⟨rfl, rfl⟩)
  go_ret2
  exact ⟨rfl, O3.out⟩

set_option maxHeartbeats 400000 in
theorem byteAt_c (s : Str) (i : Nat) (hi : i ≤ 1000000000) (hs : s.length ≤ 1000000000) : Calls Try.prog 24 #[strV s, .int .i64 (i : Int)] w fun e w' => e = .returned (.int .u8 (s.getD i 0).toNat) ∧ w = w' := by
  by_cases h : i < s.length
  · have hg : s.getD i 0 = s[i] := by simp [List.getD_eq_getElem?_getD, List.getElem?_eq_getElem h]
    have HG := Lib.hid hg
    clear hg
    go_enter Try.func24, Try.ntmps24
    go_wp2
    go_ret
    rw [HG.out]
    exact ⟨rfl, rfl⟩
  · have hg : s.getD i 0 = 0 := by simp [List.getD_eq_getElem?_getD, List.getElem?_eq_none (Nat.le_of_not_lt h)]
    have HG := Lib.hid hg
    clear hg
    go_enter Try.func24, Try.ntmps24
    go_wp2
    go_ret
    rw [HG.out]
    exact ⟨rfl, rfl⟩
end

/-! ### two disks side by side -/
def Two (w0 : World) (d : Nat) (D : Dsk) (c : Nat) (C : Dsk) (w : World) : Prop :=
  ∃ F G, IsDisk w d D F ∧ IsDisk w c C G ∧ Only NoF w0 w ∧ (∀ k, F.all k → w0.heap.size ≤ k) ∧ (∀ k, G.all k → w0.heap.size ≤ k) ∧ (∀ k, F.m k → ¬ G.all k) ∧ ∀ k, G.m k → ¬ F.all k

section
variable {w0 w w1 : World} {d c : Nat} {D C : Dsk}
theorem Two.swap (h : Two w0 d D c C w) : Two w0 c C d D w := by
  obtain ⟨F, G, h1, h2, h3, h4, h5, h6, h7⟩ := h
  exact ⟨G, F, h2, h1, h3, h5, h4, h7, h6⟩
theorem Two.out (h : Two w0 d D c C w) : Only NoF w0 w := by
  obtain ⟨F, G, h1, h2, h3, h4, h5, h6, h7⟩ := h
  exact h3
theorem Two.keep {o : World} (h : Two w0 d D c C w) (ho : Only NoF w o) : Two w0 d D c C o := by
  obtain ⟨F, G, h1, h2, h3, h4, h5, h6, h7⟩ := h
  exact ⟨F, G, h1.only ho fun _ _ h => h, h2.only ho fun _ _ h => h, h3.trans' ho, h4, h5, h6, h7⟩
theorem Two.alloc (h : Two w0 d D c C w) (o : Obj) : Two w0 d D c C (w.alloc o) := h.keep ((Only.refl NoF w).alloc o)
/-- a call on the first -/
theorem Two.left {D' : Dsk} (h : Two w0 d D c C w) (hc : ∀ F, IsDisk w d D F → (∀ k, F.all k → w0.heap.size ≤ k) → DiskTo w d F D' w1) : Two w0 d D' c C w1 := by
  obtain ⟨F, G, h1, h2, h3, h4, h5, h6, h7⟩ := h
  obtain ⟨F', i, o, f, r⟩ := hc F h1 h4
  have hs := h3.size
  have hlt := h2.lt
  refine ⟨F', G, i, h2.only o fun k hg hf => h6 k hf hg, h3.trans o fun k hk => .inr (h4 k (.inl hk)), fun k hk => ?_, h5, fun k hk hg => ?_, fun k hk hf => ?_⟩
  · rcases hk with hk | hk
    · rcases f k hk with h | h
      · exact h4 k (.inl h)
      · omega
    · rcases r k hk with h | h
      · exact h4 k (.inr h)
      · omega
  · have := hlt k hg
    rcases f k hk with h | h
    · exact h6 k h hg
    · omega
  · have := hlt k (.inl hk)
    rcases hf with hf | hf
    · rcases f k hf with h | h
      · exact h7 k hk (.inl h)
      · omega
    · rcases r k hf with h | h
      · exact h7 k hk (.inr h)
      · omega

def OneTo (w0 : World) (d : Nat) (D : Dsk) (c : Nat) (C : Dsk) (u : Value) (e : Ending) (w' : World) : Prop := e = .returned u ∧ Two w0 d D c C w'
/-- a contract of the one disk as a contract of two -/
theorem Two.call (h : Two w0 d D c C w) {f : FuncId} {args : Array Value} {u : Value} {D' : Dsk} (hc : ∀ F, IsDisk w d D F → (∀ k, F.all k → w0.heap.size ≤ k) → Calls Try.prog f args w fun e w' => e = .returned u ∧ DiskTo w d F D' w') :
    Calls Try.prog f args w (OneTo w0 d D' c C u) := by
  obtain ⟨F, G, h1, h2, h3, h4, h5, h6, h7⟩ := h
  refine (hc F h1 h4).mono fun e w' ⟨he, ht⟩ => ⟨he, ?_⟩
  obtain ⟨F', i, o, f, r⟩ := ht
  have hs := h3.size
  have hlt := h2.lt
  refine ⟨F', G, i, h2.only o fun k hg hf => h6 k hf hg, h3.trans o fun k hk => .inr (h4 k (.inl hk)), fun k hk => ?_, h5, fun k hk hg => ?_, fun k hk hf => ?_⟩
  · rcases hk with hk | hk
    · rcases f k hk with h | h
      · exact h4 k (.inl h)
      · omega
    · rcases r k hk with h | h
      · exact h4 k (.inr h)
      · omega
  · have := hlt k hg
    rcases f k hk with h | h
    · exact h6 k h hg
    · omega
  · have := hlt k (.inl hk)
    rcases hf with hf | hf
    · rcases f k hf with h | h
      · exact h7 k hk (.inl h)
      · omega
    · rcases r k hf with h | h
      · exact h7 k hk (.inr h)
      · omega
theorem Two.calr (h : Two w0 d D c C w) {f : FuncId} {args : Array Value} {u : Value} {C' : Dsk} (hc : ∀ F, IsDisk w c C F → (∀ k, F.all k → w0.heap.size ≤ k) → Calls Try.prog f args w fun e w' => e = .returned u ∧ DiskTo w c F C' w') :
    Calls Try.prog f args w (OneTo w0 d D c C' u) := (h.swap.call hc).mono fun _ _ ⟨he, ht⟩ => ⟨he, ht.swap⟩
theorem Two.first (h : Two w0 d D c C w) : NewDisk w0 d D w := by
  obtain ⟨F, G, h1, h2, h3, h4, h5, h6, h7⟩ := h
  exact ⟨F, h1, h3, h4⟩
theorem NewDisk.two (h : NewDisk w0 d D w) (h2 : NewDisk w c C w1) : Two w0 d D c C w1 := by
  obtain ⟨F, i, o, f⟩ := h
  obtain ⟨G, i2, o2, f2⟩ := h2
  have hlt := i.lt
  have hs := o.size
  refine ⟨F, G, i.only o2 fun _ _ h => h, i2, o.trans' o2, f, fun k hk => by have := f2 k hk; omega, fun k hk hg => ?_, fun k hk hf => ?_⟩
  · have := hlt k (.inl hk); have := f2 k hg; omega
  · have := hlt k hf; have := f2 k (.inl hk); omega
/-- behind Copy -/
def CopyTo (w0 : World) (d : Nat) (D : Dsk) (e : Ending) (w' : World) : Prop := ∃ c, e = .returned (.pointer (some ⟨c, 0, none⟩)) ∧ Two w0 d D c D w'
theorem NewDisk.copy (h : NewDisk w0 d D w) : Calls Try.prog 18 #[.pointer (some ⟨d, 0, none⟩)] w (CopyTo w0 d D) := by
  obtain ⟨F, i, o, f⟩ := h
  refine (dCopy_c i).mono ?_
  rintro e w' ⟨c, G, rfl, i1, o1, f1, r1⟩
  have hlt := i.lt
  have hs := o.size
  refine ⟨c, rfl, F, G, i.only o1 fun _ _ h => h, i1, o.trans' o1, f, fun k hk => ?_, fun k hk hg => ?_, fun k hk hf => ?_⟩
  · rcases hk with hk | hk
    · have := f1 k hk; omega
    · exact f k (.inr (r1 k hk))
  · rcases hg with hg | hg
    · have := f1 k hg; have := hlt k (.inl hk); omega
    · exact i.mr hk (r1 k hg)
  · have := f1 k hk; have := hlt k hf; omega
def OnTo (w0 : World) (d : Nat) (D : Dsk) (u : Value) (e : Ending) (w' : World) : Prop := e = .returned u ∧ NewDisk w0 d D w'
/-- a contract of a disk as a contract of a new disk -/
theorem NewDisk.call (h : NewDisk w0 d D w) {f : FuncId} {args : Array Value} {u : Value} {D' : Dsk} (hc : ∀ F, IsDisk w d D F → (∀ k, F.all k → w0.heap.size ≤ k) → Calls Try.prog f args w fun e w' => e = .returned u ∧ DiskTo w d F D' w') :
    Calls Try.prog f args w (OnTo w0 d D' u) := by
  obtain ⟨F, i, o, f⟩ := h
  exact (hc F i f).mono fun e w' ⟨he, ht⟩ => ⟨he, NewDisk.next o f ht⟩
end
end Go.Proofs.Ytddmgkppefhlbaa
