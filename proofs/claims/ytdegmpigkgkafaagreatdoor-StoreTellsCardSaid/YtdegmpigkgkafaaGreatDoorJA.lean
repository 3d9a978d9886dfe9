/-
  Things in memory side by side, and what calls on them turn. No condition.
  The journal in memory, and what its calls compute. No condition beyond those that each names.
  The journal on a disk where nothing happens, as plain data: opening, appending, reading. No condition beyond those that each names.
-/
import Derived.Test.YtdegmpigkgkafaaGreatDoorDskRep
import Derived.Test.YtdegmpigkgkafaaGreatDoorRow
import Derived.Test.YtdegmpigkgkafaaGreatDoorVm
import Derived.Test.YtdegmpigkgkafaaGreatDoorDW
import Derived.Test.YtdegmpigkgkafaaGreatDoorJW1
namespace Go.Proofs.YtdegmpigkgkafaaGreatDoor
set_option linter.unusedVariables false
set_option linter.unusedSimpArgs false
set_option linter.unusedSectionVars false
section
open Go.RowKit
/-! ### Two things in memory side by side -/
abbrev Thing := World → Foot → Prop
structure Good (X : Thing) : Prop where
 only : ∀ {w w' : World} {F : Foot} {G : Nat → Prop}, X w F → Only G w w' → (∀ k, F.all k → ¬ G k) → X w' F
 lt : ∀ {w : World} {F : Foot}, X w F → ∀ k, F.all k → k < w.heap.size
/-- behind a call that may write the thing alone -/
def ThingTo (X' : Thing) (w : World) (F : Foot) (w' : World) : Prop := ∃ F', X' w' F' ∧ Only F.m w w' ∧ (∀ k, F'.m k → F.m k ∨ w.heap.size ≤ k) ∧ ∀ k, F'.r k → F.r k ∨ w.heap.size ≤ k
def Duo (w0 : World) (X Y : Thing) (w : World) : Prop :=
 ∃ F G, X w F ∧ Y w G ∧ Only NoF w0 w ∧ (∀ k, F.all k → w0.heap.size ≤ k) ∧ (∀ k, G.all k → w0.heap.size ≤ k) ∧ (∀ k, F.m k → ¬ G.all k) ∧ ∀ k, G.m k → ¬ F.all k
section
variable {w0 w w1 : World} {X X' Y Y' : Thing}
theorem Duo.out (h : Duo w0 X Y w) : Only NoF w0 w := by
 obtain ⟨F, G, h1, h2, h3, h4, h5, h6, h7⟩ := h
 exact h3
theorem Duo.keep (gX : Good X) (gY : Good Y) (h : Duo w0 X Y w) (ho : Only NoF w w1) : Duo w0 X Y w1 := by
 obtain ⟨F, G, h1, h2, h3, h4, h5, h6, h7⟩ := h
 exact ⟨F, G, gX.only h1 ho fun _ _ h => h, gY.only h2 ho fun _ _ h => h, h3.trans' ho, h4, h5, h6, h7⟩
theorem Duo.left (gY : Good Y) {F G : Foot} (h2 : Y w G) (h3 : Only NoF w0 w) (h4 : ∀ k, F.all k → w0.heap.size ≤ k) (h5 : ∀ k, G.all k → w0.heap.size ≤ k) (h6 : ∀ k, F.m k → ¬ G.all k) (h7 : ∀ k, G.m k → ¬ F.all k) (ht : ThingTo X' w F w1) : Duo w0 X' Y w1 := by
 obtain ⟨F', i, o, f, r⟩ := ht
 have hs := h3.size
 have hlt := gY.lt h2
 refine ⟨F', G, i, gY.only h2 o fun k hg hf => h6 k hf hg, h3.trans o fun k hk => .inr (h4 k (.inl hk)), fun k hk => ?_, h5, fun k hk hg => ?_, fun k hk hf => ?_⟩
 · rcases hk with hk | hk
   · rcases f k hk with h | h
     · exact h4 k (.inl h)
     · omega
   · rcases r k hk with h | h
     · exact h4 k (.inr h)
     · omega
 · have := hlt k hg
   rcases f k hk with h | h
   · exact h6 k h hg
   · omega
 · have := hlt k (.inl hk)
   rcases hf with hf | hf
   · rcases f k hf with h | h
     · exact h7 k hk (.inl h)
     · omega
   · rcases r k hf with h | h
     · exact h7 k hk (.inr h)
     · omega
def DuoTo (w0 : World) (X Y : Thing) (u : Value) (e : Ending) (w' : World) : Prop := e = .returned u ∧ Duo w0 X Y w'
theorem Duo.call (gY : Good Y) (h : Duo w0 X Y w) {f : FuncId} {args : Array Value} {u : Value} (hc : ∀ F, X w F → (∀ k, F.all k → w0.heap.size ≤ k) → Calls Tryz.prog f args w fun e w' => e = .returned u ∧ ThingTo X' w F w') :
 Calls Tryz.prog f args w (DuoTo w0 X' Y u) := by
 obtain ⟨F, G, h1, h2, h3, h4, h5, h6, h7⟩ := h
 exact (hc F h1 h4).mono fun e w' ⟨he, ht⟩ => ⟨he, Duo.left gY h2 h3 h4 h5 h6 h7 ht⟩
/-- two things as one -/
def BothT (X Y : Thing) : Thing := fun w G => ∃ G1 G2 : Foot, X w G1 ∧ Y w G2 ∧ (∀ k, G1.m k → ¬ G2.all k) ∧ (∀ k, G2.m k → ¬ G1.all k) ∧ G = ⟨fun k => G1.m k ∨ G2.m k, fun k => G1.r k ∨ G2.r k⟩
theorem BothT.good (gX : Good X) (gY : Good Y) : Good (BothT X Y) where
 only := by
  rintro w w' F G ⟨G1, G2, h1, h2, h3, h4, rfl⟩ ho hG
  exact ⟨G1, G2, gX.only h1 ho fun k hk => hG k (hk.elim (fun h => .inl (.inl h)) (fun h => .inr (.inl h))), gY.only h2 ho fun k hk => hG k (hk.elim (fun h => .inl (.inr h)) (fun h => .inr (.inr h))), h3, h4, rfl⟩
 lt := by
  rintro w F ⟨G1, G2, h1, h2, h3, h4, rfl⟩ k hk
  rcases hk with (hk | hk) | (hk | hk)
  · exact gX.lt h1 k (.inl hk)
  · exact gY.lt h2 k (.inl hk)
  · exact gX.lt h1 k (.inr hk)
  · exact gY.lt h2 k (.inr hk)
end
abbrev DiskT (b : Nat) (D : Dsk) : Thing := fun w F => IsDisk w b D F
theorem diskT_good (b : Nat) (D : Dsk) : Good (DiskT b D) := ⟨fun h ho hG => IsDisk.only h ho hG, fun h => IsDisk.lt h⟩
section
variable {w w' w0 : World} {F F' : Foot} {g : Nat}
theorem sep_next (h : ¬ F.all g) (hg : g < w.heap.size) (fm : ∀ k, F'.m k → F.m k ∨ w.heap.size ≤ k) (fr : ∀ k, F'.r k → F.r k ∨ w.heap.size ≤ k) : ¬ F'.all g := by
 rintro (hk | hk)
 · rcases fm g hk with hk | hk
   · exact h (.inl hk)
   · omega
 · rcases fr g hk with hk | hk
   · exact h (.inr hk)
   · omega
theorem sep_nexto {O : Nat → Prop} (h : ∀ k, O k → ¬ F.all k) (hg : ∀ k, O k → k < w.heap.size) (fm : ∀ k, F'.m k → F.m k ∨ w.heap.size ≤ k) (fr : ∀ k, F'.r k → F.r k ∨ w.heap.size ≤ k) : ∀ k, O k → ¬ F'.all k :=
 fun k hk => sep_next (h k hk) (hg k hk) fm fr
theorem sep_app {v v' : Value} {m : Nat} (al : v'.ownBlock = v.ownBlock ∨ v'.ownBlock = some m) (h : ∀ k, ownF v k → ¬ F.all k) (hl : ∀ k, F.all k → k < m) : ∀ k, ownF v' k → ¬ F.all k := by
 intro k hk hF
 unfold ownF at hk h
 rcases al with al | al
 · rw [al] at hk; exact h k hk hF
 · rw [al] at hk; injection hk with hk; have := hl k hF; omega
theorem ge_next (h : ∀ k, F.all k → w0.heap.size ≤ k) (hl : w0.heap.size ≤ w.heap.size) (fm : ∀ k, F'.m k → F.m k ∨ w.heap.size ≤ k) (fr : ∀ k, F'.r k → F.r k ∨ w.heap.size ≤ k) : ∀ k, F'.all k → w0.heap.size ≤ k := by
 rintro k (hk | hk)
 · rcases fm k hk with hk | hk
   · exact h k (.inl hk)
   · exact Nat.le_trans hl hk
 · rcases fr k hk with hk | hk
   · exact h k (.inr hk)
   · exact Nat.le_trans hl hk
theorem fix_w {P : Program} {f : FuncId} {args : Array Value} {v : Value} (h : Calls P f args w fun e w' => e = .returned v ∧ w = w') : Calls P f args w (Fix v w) :=
 h.mono fun _ _ ⟨he, hw⟩ => ⟨he, by subst hw; exact Only.refl _ _⟩
end
end
section
open Go.RowKit
structure Jn where
 f : Int
 l : List Str
 n : Nat
 bad : Bool
abbrev jrnCells (b : Nat) (J : Jn) (A : Option Addr) (c : Nat) : Array Value := #[.pointer (some ⟨b, 0, none⟩), .int .i64 J.f, .slice A J.l.length c, .int .i64 ((J.n : Nat) : Int), .bool J.bad]
/-- the journal at g, of the disk at b: its own block and the row of its records -/
def JB (b g : Nat) (J : Jn) : Thing := fun w F => ∃ A c, Blk w g 110 (jrnCells b J A c) ∧ w.ownsRow 0 9 1 (.slice A J.l.length c) J.l.length (J.l.flatMap KStr.cells) ∧ (∀ z ∈ J.l, KStr.ok z) ∧ F = ⟨fun k => k = g ∨ ownF (.slice A J.l.length c) k, fun _ => False⟩
theorem jb_good (b g : Nat) (J : Jn) : Good (JB b g J) where
 only := by
  rintro w w' F G ⟨A, c, h1, h2, h3, rfl⟩ ho hG
  exact ⟨A, c, h1.only ho (hG g (.inl (.inl rfl))), ow_only h2 ho fun k hk => hG k (.inl (.inr hk)), h3, rfl⟩
 lt := by
  rintro w F ⟨A, c, h1, h2, h3, rfl⟩ k ((rfl | hk) | hk)
  · exact Blk.lt h1
  · exact ownF_lt h2 k hk
  · exact hk.elim
abbrev JT (b g : Nat) (D : Dsk) (J : Jn) : Thing := BothT (JB b g J) (DiskT b D)
theorem jt_good (b g : Nat) (D : Dsk) (J : Jn) : Good (JT b g D J) := BothT.good (jb_good b g J) (diskT_good b D)
section
variable {w : World} {b g : Nat} {D : Dsk} {J : Jn} {F : Foot}
theorem JT.make {A : Option Addr} {c base : Nat} (h1 : Blk w g 110 (jrnCells b J A c)) (h2 : w.ownsRow base 9 1 (.slice A J.l.length c) J.l.length (J.l.flatMap KStr.cells)) (h3 : ∀ z ∈ J.l, KStr.ok z) (h4 : IsDisk w b D F) (s1 : ¬ F.all g) (s2 : ∀ k, ownF (.slice A J.l.length c) k → ¬ F.all k) :
 JT b g D J w ⟨fun k => (k = g ∨ ownF (.slice A J.l.length c) k) ∨ F.m k, fun k => False ∨ F.r k⟩ :=
 ⟨⟨fun k => k = g ∨ ownF (.slice A J.l.length c) k, fun _ => False⟩, F, ⟨A, c, h1, ow_low h2 (Nat.zero_le _), h3, rfl⟩, h4, fun k hk => hk.elim (fun e => by subst e; exact s1) (s2 k), fun k hk h => h.elim (fun h => h.elim (fun e => by subst e; exact s1 (.inl hk)) (fun h => s2 k h (.inl hk))) (fun h => h.elim), rfl⟩
/-- what is known of the disk under a journal -/
theorem JT.disk (h : JT b g D J w F) : ∃ F2, IsDisk w b D F2 ∧ (∀ k, F2.m k → F.m k) ∧ ∀ k, F2.r k → F.r k := by
 obtain ⟨G1, G2, _, h2, _, _, rfl⟩ := h
 exact ⟨G2, h2, fun k hk => .inr hk, fun k hk => .inr hk⟩
theorem ThingTo.low {X : Thing} {w' : World} {F2 : Foot} (h : ThingTo X w F2 w') (hm : ∀ k, F2.m k → F.m k) (hr : ∀ k, F2.r k → F.r k) : ThingTo X w F w' := by
 obtain ⟨F', h1, o, fm, fr⟩ := h
 exact ⟨F', h1, o.mono hm, fun k hk => (fm k hk).imp (hm k) id, fun k hk => (fr k hk).imp (hr k) id⟩
end
/-- a call that returns v and may write the thing alone -/
def TurnTo (v : Value) (X : Thing) (w : World) (F : Foot) (e : Ending) (w' : World) : Prop := e = .returned v ∧ ThingTo X w F w'
/-! ### what the calls compute -/
def openJ (D : Dsk) (f : Int) : Dsk × Int × Option Jn :=
 if f < 0 ∨ 15 < f then (D, 1, none)
 else if (D.sync f).2 ≠ 0 then ((D.sync f).1, (D.sync f).2, none)
 else if ((D.sync f).1.read f 0 (((D.sync f).1.size f : Nat) : Int)).2 ≠ 0 then ((D.sync f).1, ((D.sync f).1.read f 0 (((D.sync f).1.size f : Nat) : Int)).2, none)
 else if (forms (recs ((D.sync f).1.read f 0 (((D.sync f).1.size f : Nat) : Int)).1)).length < ((D.sync f).1.read f 0 (((D.sync f).1.size f : Nat) : Int)).1.length then
  (if ((D.sync f).1.truncate f (((forms (recs ((D.sync f).1.read f 0 (((D.sync f).1.size f : Nat) : Int)).1)).length : Nat) : Int)).2 ≠ 0 then
   (((D.sync f).1.truncate f (((forms (recs ((D.sync f).1.read f 0 (((D.sync f).1.size f : Nat) : Int)).1)).length : Nat) : Int)).1, ((D.sync f).1.truncate f (((forms (recs ((D.sync f).1.read f 0 (((D.sync f).1.size f : Nat) : Int)).1)).length : Nat) : Int)).2, none)
  else (((D.sync f).1.truncate f (((forms (recs ((D.sync f).1.read f 0 (((D.sync f).1.size f : Nat) : Int)).1)).length : Nat) : Int)).1, 0, some ⟨f, recs ((D.sync f).1.read f 0 (((D.sync f).1.size f : Nat) : Int)).1, (forms (recs ((D.sync f).1.read f 0 (((D.sync f).1.size f : Nat) : Int)).1)).length, false⟩))
 else ((D.sync f).1, 0, some ⟨f, recs ((D.sync f).1.read f 0 (((D.sync f).1.size f : Nat) : Int)).1, (forms (recs ((D.sync f).1.read f 0 (((D.sync f).1.size f : Nat) : Int)).1)).length, false⟩)
def OpenJTo (b : Nat) (r : Dsk × Int × Option Jn) (w : World) (F : Foot) (e : Ending) (w' : World) : Prop :=
 (r.2.2 = none ∧ e = .returned (.tuple #[.pointer none, .int .i64 r.2.1]) ∧ ThingTo (DiskT b r.1) w F w') ∨
 ∃ J g, r.2.2 = some J ∧ e = .returned (.tuple #[.pointer (some ⟨g, 0, none⟩), .int .i64 r.2.1]) ∧ ThingTo (JT b g r.1 J) w F w'
def Jn.append (J : Jn) (D : Dsk) (t : Str) : Dsk × Jn × Int :=
 if J.bad = true then (D, J, 7)
 else if 20000 < t.length then (D, J, 3)
 else if 1048576 < J.n + (form t).length then (D, J, 6)
 else if (D.write J.f ((J.n : Nat) : Int) (form t)).2 ≠ 0 then ((D.write J.f ((J.n : Nat) : Int) (form t)).1, { J with bad := true }, (D.write J.f ((J.n : Nat) : Int) (form t)).2)
 else ((D.write J.f ((J.n : Nat) : Int) (form t)).1, { J with l := J.l ++ [t], n := J.n + (form t).length }, 0)
def Jn.sync (J : Jn) (D : Dsk) : Dsk × Jn × Int :=
 if J.bad = true then (D, J, 7) else ((D.sync J.f).1, { J with bad := !decide ((D.sync J.f).2 = 0) }, (D.sync J.f).2)
theorem read_le {w : World} {b : Nat} {D : Dsk} {F : Foot} (h : IsDisk w b D F) (f a n : Int) : (D.read f a n).1.length ≤ 16777216 := by
 have := (h.ok.lens f).1
 unfold Dsk.read Dsk.readS
 split
 · simp
 · split
   · simp
   · rw [List.length_take, List.length_drop]; omega
theorem size_le {w : World} {b : Nat} {D : Dsk} {F : Foot} (h : IsDisk w b D F) (f : Int) : D.size f ≤ 16777216 := (h.ok.lens f).1
theorem recs_okS (s : Str) : ∀ z ∈ recs s, KStr.ok z := fun z hz => by
 have := recs_short hz
 show z.length ≤ maxLen
 unfold maxLen; omega
end
section
open Go.RowKit
structure Calm (D : Dsk) : Prop where
 down : D.down = false
 armed : D.armed = 0
 lost : D.lost = 0
namespace Calm
variable {D : Dsk} {f : Int}
theorem init : Calm Dsk.init := ⟨rfl, rfl, rfl⟩
theorem ends (h : Calm D) : D.ends = false := by unfold Dsk.ends; rw [h.armed]; simp
theorem tick (h : Calm D) : D.tick = D := by unfold Dsk.tick; rw [h.armed]; simp
theorem tock (h : Calm D) : D.tock = D := by unfold Dsk.tock; rw [h.ends, h.tick]; rfl
theorem may (h : Calm D) (h0 : 0 ≤ f) (h1 : f ≤ 15) : D.may f = 0 := by
 unfold Dsk.may
 rw [h.down, if_neg (by decide), if_neg (by omega)]
theorem addc (h : Calm D) (a : Nat) (s : Str) : Calm (D.add f a s) := by
 unfold Dsk.add
 split
 · exact h
 · exact ⟨h.down, h.armed, h.lost⟩
theorem settlec (h : Calm D) (s : Str) : Calm (D.settle f s) := ⟨h.down, h.armed, h.lost⟩
theorem write (h : Calm D) (h0 : 0 ≤ f) (h1 : f ≤ 15) (a : Nat) (s : Str) (hs : a + s.length ≤ 16777216) : D.write f ((a : Nat) : Int) s = (D.add f a s, 0) := by
 unfold Dsk.write Dsk.write0
 rw [h.ends, if_neg (by decide), h.tick, if_neg (by rw [h.may h0 h1]; decide), if_neg (by omega), if_neg (by unfold Dsk.fits; omega)]
 rfl
theorem sync (h : Calm D) (h0 : 0 ≤ f) (h1 : f ≤ 15) : D.sync f = (D.settle f (D.file f).1, 0) := by
 unfold Dsk.sync Dsk.sync0
 rw [h.tock, if_neg (by rw [h.may h0 h1]; decide), if_neg (by rw [h.lost]; decide)]
theorem truncate (h : Calm D) (h0 : 0 ≤ f) (h1 : f ≤ 15) (n : Nat) (hn : n ≤ (D.file f).1.length) : D.truncate f ((n : Nat) : Int) = (D.settle f ((D.file f).1.take n), 0) := by
 unfold Dsk.truncate Dsk.truncate0
 rw [h.tock, if_neg (by rw [h.may h0 h1]; decide), if_neg (by omega)]
 rfl
theorem read (h : Calm D) (h0 : 0 ≤ f) (h1 : f ≤ 15) (n : Nat) (hn : (D.file f).1.length ≤ n) : D.read f 0 ((n : Nat) : Int) = ((D.file f).1, 0) := by
 unfold Dsk.read Dsk.readS
 rw [if_neg (by rw [h.may h0 h1]; decide), if_neg (by omega)]
 have e : ((n : Nat) : Int).toNat = n := by omega
 rw [e, show (0 : Int).toNat = 0 from rfl, List.drop_zero, List.take_of_length_le hn]
end Calm
theorem settle_file (D : Dsk) (f : Int) (s : Str) : ((D.settle f s).file f).1 = s := by
 show (Dsk.setFile D.file f (s, s) f).1 = s
 unfold Dsk.setFile; rw [if_pos rfl]
theorem settle_far (D : Dsk) {f i : Int} (s : Str) (h : i ≠ f) : (D.settle f s).file i = D.file i := by
 show Dsk.setFile D.file f (s, s) i = _
 unfold Dsk.setFile; rw [if_neg h]
theorem add_file (D : Dsk) (f : Int) (a : Nat) (s : Str) : ((D.add f a s).file f).1 = put (D.file f).1 a s := by
 unfold Dsk.add
 by_cases h : s = []
 · rw [if_pos h]; unfold put; rw [if_pos h]
 · rw [if_neg h]; unfold Dsk.setFile; simp
theorem put_end (s t : Str) : put s s.length t = s ++ t := by
 unfold put
 by_cases h : t = []
 · rw [if_pos h, h, List.append_nil]
 · rw [if_neg h, List.take_length, Nat.sub_self, List.drop_of_length_le (by omega)]; simp
theorem openJ_calm {D : Dsk} {f : Int} (h : Calm D) (h0 : 0 ≤ f) (h1 : f ≤ 15) : ∃ D', openJ D f = (D', 0, some ⟨f, recs (D.file f).1, (forms (recs (D.file f).1)).length, false⟩) ∧ Calm D' ∧ (D'.file f).1 = forms (recs (D.file f).1) ∧ ∀ i, i ≠ f → D'.file i = D.file i := by
 have hs := h.sync h0 h1
 have hc : Calm (D.settle f (D.file f).1) := h.settlec _
 have hf : ((D.settle f (D.file f).1).file f).1 = (D.file f).1 := settle_file _ _ _
 have hr : (D.settle f (D.file f).1).read f 0 (((D.settle f (D.file f).1).size f : Nat) : Int) = ((D.file f).1, 0) := by
  have := hc.read h0 h1 ((D.settle f (D.file f).1).size f) (Nat.le_refl _)
  rw [this, hf]
 unfold openJ
 rw [if_neg (by omega), hs, if_neg (fun h => h rfl)]
 simp only
 rw [hr, if_neg (fun h => h rfl)]
 simp only
 have hle := recs_le (D.file f).1
 split
 · rename_i hlt
   have ht := hc.truncate h0 h1 (forms (recs (D.file f).1)).length (by rw [hf]; exact hle)
   rw [hf, recs_take] at ht
   rw [ht, if_neg (fun h => h rfl)]
   exact ⟨_, rfl, hc.settlec _, settle_file _ _ _, fun i hi => by rw [settle_far _ _ hi, settle_far _ _ hi]⟩
 · rename_i hlt
   refine ⟨_, rfl, hc, ?_, fun i hi => settle_far _ _ hi⟩
   rw [hf]
   have := recs_take (D.file f).1
   rwa [List.take_of_length_le (by omega)] at this
end
end Go.Proofs.YtdegmpigkgkafaaGreatDoor
