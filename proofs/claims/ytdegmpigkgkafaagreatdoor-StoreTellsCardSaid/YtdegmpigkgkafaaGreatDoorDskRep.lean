/-
  How a disk lies in memory (the program's). No condition: definitions and lemmas on them.
-/
import Derived.Test.YtdegmpigkgkafaaGreatDoorDsk
import Derived.Test.YtdegmpigkgkafaaGreatDoorProg
import Derived.KernelRfl
namespace Go.Proofs.YtdegmpigkgkafaaGreatDoor
set_option linter.unusedVariables false
set_option linter.unusedSimpArgs false
set_option linter.unusedSectionVars false
open Go.RowKit
theorem zeroFile (w : World) : (zeroValue 86).run Tryz.prog w = .ok (.agg #[strV [], strV []]) w := by kernel_rfl
theorem zeroBool (w : World) : (zeroValue 4).run Tryz.prog w = .ok (.bool false) w := by kernel_rfl
@[go_sem] theorem run_field_file0 (a c : Value) (w : World) : (Instr.field 86 (.agg #[a, c]) 0).run Tryz.prog w = .ok a w := by
 simp [Instr.field, run_underlying Tryz.underlying86, go_sem, isAgg, run_underlying Tryz.underlying9, asAgg]
abbrev keyI (n : Int) : Value := .int .i64 n
abbrev keyS (p : Int × Int) : Value := .agg #[.int .i64 p.1, .int .i64 p.2]
abbrev valF (x : Str × Str) : Value := .agg #[strV x.1, strV x.2]
abbrev valB (b : Bool) : Value := .bool b
theorem keyEqI : KeyEq Tryz.prog 3 keyI where
 eq k k' w := by
  have : (Op.equalIn (9999 + 1) 3 (.int .i64 k) (.int .i64 k')).run Tryz.prog w = .ok (k == k') w := run_equalIn_int w 9999 _ .i64 .i64 k k' Tryz.underlying3
  have e : (k == k') = decide (k = k') := by by_cases h : k = k' <;> simp [h]
  rw [← e]; exact this
 chk e k w := MapKept.run_checkKey (d := .int .i64) (k := keyI k) Tryz.underlying3 (show IntKind.i64 = IntKind.i64 from rfl) e 9999
 same k := by simp [Instr.sameBits]
 kind := ⟨_, Tryz.underlying3, fun k k' => .inr (by by_cases h : k = k' <;> simp [Instr.sameNow, h])⟩
theorem keyEqS : KeyEq Tryz.prog 84 keyS where
 eq k k' w := by
  have h : (Op.equalIn (9999 + 1) 84 (keyS k) (keyS k')).run Tryz.prog w = .ok (decide (k = k')) w := by
   obtain ⟨a, b⟩ := k
   obtain ⟨c, d⟩ := k'
   by_cases h1 : a = c <;> by_cases h2 : b = d <;> simp [go_sem, Tryz.underlying84, Tryz.underlying3, h1, h2]
  exact h
 chk e k w := by
  have h1 : ∀ n : Int, (Instr.checkKey e (9998 + 1) 3 (.int .i64 n)).run Tryz.prog w = .ok () w := fun n =>
   MapKept.run_checkKey (d := .int .i64) (k := keyI n) Tryz.underlying3 (show IntKind.i64 = IntKind.i64 from rfl) e 9998
  show (Instr.checkKey e (9999 + 1) 84 (keyS k)).run Tryz.prog w = .ok () w
  unfold Instr.checkKey
  simp only [Sem.run_bind, run_underlying Tryz.underlying84, Result.andThen_ok]
  simp [go_sem, isAgg, run_underlying Tryz.underlying3, h1]
 same k := by simp [Instr.sameBits]
 kind := ⟨_, Tryz.underlying84, fun k k' => .inl (by simp [Instr.sameNow])⟩
/-! ### The disk in memory -/
/-- where the parts lie, and what the maps hold -/
structure DWit where
 mf : Nat
 ms : Nat
 q : Value
 kp : Value
 fl : List (Int × (Str × Str) × Nat)
 fc : Nat
 sl : List ((Int × Int) × Bool × Nat)
 sc : Nat
/-- the blocks of the disk at block b: those that its calls write (m), and the row that they only read, which a copy shares (r) -/
structure Foot where
 m : Nat → Prop
 r : Nat → Prop
def Foot.all (F : Foot) (k : Nat) : Prop := F.m k ∨ F.r k
def DWit.foot (x : DWit) (b : Nat) : Foot := ⟨fun k => k = b ∨ k = x.mf ∨ k = x.ms ∨ x.q.ownBlock = some k ∨ False, fun k => x.kp.ownBlock = some k⟩
def secCells (q : List (Int × Int)) : List Value := q.flatMap fun p => [.int .i64 p.1, .int .i64 p.2]
/-- a map's entries: different keys, different stamps, all of them below the clock -/
structure Entries {κ β : Type} (l : List (κ × β × Nat)) (clock : Nat) : Prop where
 keys : (l.map (·.1)).Nodup
 born : (l.map (·.2.2)).Nodup
 lt : ∀ y ∈ l, y.2.2 < clock
structure IsDiskW (w : World) (b : Nat) (D : Dsk) (x : DWit) : Prop where
 blk : Blk w b 58 #[.map (some x.mf), x.q, .map (some x.ms), .int .i64 D.lost, .bool D.down, .int .i64 D.armed, x.kp]
 fm : MapAt keyI valF w x.mf x.fl x.fc
 sm : MapAt keyS valB w x.ms x.sl x.sc
 ne : x.mf ≠ x.ms
 own : w.ownsRow 0 84 2 x.q D.queue.length (secCells D.queue)
 kpo : w.ownsRow 0 3 1 x.kp D.keep.length (D.keep.map (Value.int .i64))
 abs : ∀ f, (assoc f x.fl).getD ([], []) = D.file f
 fent : Entries x.fl x.fc
 sent : Entries x.sl x.sc
 fkey : ∀ y ∈ x.fl, 0 ≤ y.1 ∧ y.1 < 16
 sset : ∀ p, assoc p x.sl = if p ∈ D.queue then some true else none
 ok : D.Ok
def IsDisk (w : World) (b : Nat) (D : Dsk) (F : Foot) : Prop := ∃ x, IsDiskW w b D x ∧ F = x.foot b
theorem own_lt {w : World} {base : Nat} {e : TypeId} {size n : Nat} {v : Value} {xs : List Value} (h : w.ownsRow base e size v n xs) : ∀ k, v.ownBlock = some k → k < w.heap.size := fun k hk => (h.lt k hk).2
theorem own_only {w w' : World} {F : Nat → Prop} {base : Nat} {e : TypeId} {size n : Nat} {v : Value} {xs : List Value} (h : w.ownsRow base e size v n xs) (ho : Only F w w') (hF : ∀ k, v.ownBlock = some k → ¬ F k) : w'.ownsRow base e size v n xs := by
 obtain ⟨h1, h2⟩ := h
 refine ⟨h1, ?_⟩
 rcases h2 with h2 | ⟨g, cap, cur, hv, hg, hh, r⟩
 · exact .inl h2
 · exact .inr ⟨g, cap, cur, hv, hg, by rw [ho.block g (heap_lt hh) (hF g (by rw [hv]; rfl))]; exact hh, r⟩
theorem IsDiskW.foot_lt {w : World} {b : Nat} {D : Dsk} {x : DWit} (h : IsDiskW w b D x) : ∀ k, (x.foot b).all k → k < w.heap.size := by
 rintro k ((rfl | rfl | rfl | hk | hk) | hk)
 · exact h.blk.lt
 · exact heap_lt h.fm
 · exact heap_lt h.sm
 · exact own_lt h.own k hk
 · exact hk.elim
 · exact own_lt h.kpo k hk
theorem IsDiskW.only {w w' : World} {G : Nat → Prop} {b : Nat} {D : Dsk} {x : DWit} (h : IsDiskW w b D x) (ho : Only G w w') (hG : ∀ k, (x.foot b).all k → ¬ G k) : IsDiskW w' b D x :=
 { h with
  blk := h.blk.only ho (hG _ (.inl (.inl rfl)))
  fm := h.fm.only ho (hG _ (.inl (.inr (.inl rfl))))
  sm := h.sm.only ho (hG _ (.inl (.inr (.inr (.inl rfl)))))
  own := own_only h.own ho fun k hk => hG k (.inl (.inr (.inr (.inr (.inl hk)))))
  kpo := own_only h.kpo ho fun k hk => hG k (.inr hk) }
theorem IsDisk.only {w w' : World} {F : Foot} {G : Nat → Prop} {b : Nat} {D : Dsk} (h : IsDisk w b D F) (ho : Only G w w') (hG : ∀ k, F.all k → ¬ G k) : IsDisk w' b D F := by
 obtain ⟨x, h, rfl⟩ := h
 exact ⟨x, h.only ho hG, rfl⟩
theorem IsDisk.lt {w : World} {F : Foot} {b : Nat} {D : Dsk} (h : IsDisk w b D F) : ∀ k, F.all k → k < w.heap.size := by
 obtain ⟨x, h, rfl⟩ := h
 exact h.foot_lt
theorem IsDisk.ok {w : World} {F : Foot} {b : Nat} {D : Dsk} (h : IsDisk w b D F) : D.Ok := by
 obtain ⟨x, h, rfl⟩ := h
 exact h.ok
/-- behind a call on the disk at b: it is D', and nothing but what its calls may write has turned -/
def DiskTo (w : World) (b : Nat) (F : Foot) (D' : Dsk) (w' : World) : Prop := ∃ F', IsDisk w' b D' F' ∧ Only F.m w w' ∧ (∀ k, F'.m k → F.m k ∨ w.heap.size ≤ k) ∧ ∀ k, F'.r k → F.r k ∨ w.heap.size ≤ k
theorem DiskTo.same {w : World} {F : Foot} {b : Nat} {D : Dsk} (h : IsDisk w b D F) : DiskTo w b F D w := ⟨F, h, Only.refl F.m w, fun _ hk => .inl hk, fun _ hk => .inl hk⟩
theorem DiskTo.trans {w w1 w2 : World} {F F1 : Foot} {b : Nat} {D2 : Dsk} (ho : Only F.m w w1) (hF : ∀ k, F1.m k → F.m k ∨ w.heap.size ≤ k) (hR : ∀ k, F1.r k → F.r k ∨ w.heap.size ≤ k) (h : DiskTo w1 b F1 D2 w2) : DiskTo w b F D2 w2 := by
 obtain ⟨F2, h2, o2, f2, r2⟩ := h
 refine ⟨F2, h2, ho.trans o2 hF, fun k hk => ?_, fun k hk => ?_⟩
 · rcases f2 k hk with h | h
   · exact hF k h
   · have := ho.size; exact .inr (by omega)
 · rcases r2 k hk with h | h
   · exact hR k h
   · have := ho.size; exact .inr (by omega)
/-- the cells of the disk's own block -/
theorem IsDiskW.cells {w : World} {b : Nat} {D : Dsk} {x : DWit} (h : IsDiskW w b D x) :
 w.cell? ⟨b, 0, none⟩ = some (.map (some x.mf)) ∧ w.cell? ⟨b, 1, none⟩ = some x.q ∧ w.cell? ⟨b, 2, none⟩ = some (.map (some x.ms)) ∧ w.cell? ⟨b, 3, none⟩ = some (.int .i64 D.lost) ∧
 w.cell? ⟨b, 4, none⟩ = some (.bool D.down) ∧ w.cell? ⟨b, 5, none⟩ = some (.int .i64 D.armed) ∧ w.cell? ⟨b, 6, none⟩ = some x.kp :=
 ⟨h.blk.cell 0, h.blk.cell 1, h.blk.cell 2, h.blk.cell 3, h.blk.cell 4, h.blk.cell 5, h.blk.cell 6⟩
theorem own_type {w : World} {base : Nat} {e : TypeId} {size n : Nat} {v : Value} {xs : List Value} (h : w.ownsRow base e size v n xs) : ∀ g, v.ownBlock = some g → ∃ cur, Blk w g e cur := by
 intro g hg
 rcases h.2 with ⟨rfl, _⟩ | ⟨g', cap, cur, rfl, _, hh, _⟩
 · simp [Value.ownBlock] at hg
 · simp [Value.ownBlock] at hg
   subst hg
   exact ⟨cur, hh⟩
theorem map_ne_blk {κ β : Type} {ke : κ → Value} {ve : β → Value} {w : World} {r g clock : Nat} {l : List (κ × β × Nat)} {t : TypeId} {cs : Array Value} (h : MapAt ke ve w r l clock) (hg : Blk w g t cs) : r ≠ g := by
 rintro rfl
 unfold MapAt Blk at *
 rw [h] at hg
 cases hg
/-- the parts lie apart -/
theorem IsDiskW.apart {w : World} {b : Nat} {D : Dsk} {x : DWit} (h : IsDiskW w b D x) :
 x.mf ≠ b ∧ x.ms ≠ b ∧ x.mf ≠ x.ms ∧ (∀ g, x.q.ownBlock = some g → g ≠ b ∧ g ≠ x.mf ∧ g ≠ x.ms) ∧ (∀ g, x.kp.ownBlock = some g → g ≠ b ∧ g ≠ x.mf ∧ g ≠ x.ms ∧ x.q.ownBlock ≠ some g) := by
 refine ⟨map_ne_blk h.fm h.blk, map_ne_blk h.sm h.blk, h.ne, fun g hg => ?_, fun g hg => ?_⟩
 · obtain ⟨cur, hc⟩ := own_type h.own g hg
   exact ⟨hc.ne_ h.blk (by decide), (map_ne_blk h.fm hc).symm, (map_ne_blk h.sm hc).symm⟩
 · obtain ⟨cur, hc⟩ := own_type h.kpo g hg
   refine ⟨hc.ne_ h.blk (by decide), (map_ne_blk h.fm hc).symm, (map_ne_blk h.sm hc).symm, fun hq => ?_⟩
   obtain ⟨cur', hc'⟩ := own_type h.own g hq
   exact hc'.ne_ hc (by decide) rfl
/-- only the disk's own block has turned, and in it the numbers alone -/
theorem IsDiskW.reblk {w w' : World} {b : Nat} {D D' : Dsk} {x : DWit} (h : IsDiskW w b D x) (ho : Only (oneF b) w w')
 (hb : Blk w' b 58 #[.map (some x.mf), x.q, .map (some x.ms), .int .i64 D'.lost, .bool D'.down, .int .i64 D'.armed, x.kp])
 (e1 : D'.file = D.file) (e2 : D'.queue = D.queue) (e3 : D'.keep = D.keep) (ok : D'.Ok) : IsDiskW w' b D' x := by
 obtain ⟨a1, a2, a3, a4, a5⟩ := h.apart
 exact {
  blk := hb
  fm := h.fm.only ho a1
  sm := h.sm.only ho a2
  ne := h.ne
  own := by rw [e2]; exact own_only h.own ho fun k hk => (a4 k hk).1
  kpo := by rw [e3]; exact own_only h.kpo ho fun k hk => (a5 k hk).1
  abs := by rw [e1]; exact h.abs
  fent := h.fent
  sent := h.sent
  fkey := h.fkey
  sset := by rw [e2]; exact h.sset
  ok := ok }
theorem IsDiskW.to {w w' : World} {b : Nat} {D' : Dsk} {x x' : DWit} {F : Foot} (h' : IsDiskW w' b D' x') (ho : Only F.m w w') (hF : F = x.foot b) (hx : ∀ k, (x'.foot b).m k → (x.foot b).m k ∨ w.heap.size ≤ k)
 (hr : ∀ k, x'.kp.ownBlock = some k → x.kp.ownBlock = some k ∨ w.heap.size ≤ k := by exact fun _ hk => .inl hk) : DiskTo w b F D' w' :=
 ⟨_, ⟨x', h', rfl⟩, ho, fun k hk => by rw [hF]; exact hx k hk, fun k hk => by rw [hF]; exact hr k hk⟩
/-- the block itself has turned, and what is kept for a crash is another row -/
theorem IsDiskW.rekeep {w w' : World} {b : Nat} {D D' : Dsk} {x : DWit} (h : IsDiskW w b D x) {v : Value} (ho : Only (oneF b) w w')
 (hb : Blk w' b 58 #[.map (some x.mf), x.q, .map (some x.ms), .int .i64 D'.lost, .bool D'.down, .int .i64 D'.armed, v])
 (hv : w'.ownsRow 0 3 1 v D'.keep.length (D'.keep.map (Value.int .i64)))
 (e1 : D'.file = D.file) (e2 : D'.queue = D.queue) (ok : D'.Ok) : IsDiskW w' b D' { x with kp := v } := by
 obtain ⟨a1, a2, a3, a4, a5⟩ := h.apart
 exact {
  blk := hb
  fm := h.fm.only ho a1
  sm := h.sm.only ho a2
  ne := h.ne
  own := by rw [e2]; exact own_only h.own ho fun k hk => (a4 k hk).1
  kpo := hv
  abs := by rw [e1]; exact h.abs
  fent := h.fent
  sent := h.sent
  fkey := h.fkey
  sset := by rw [e2]; exact h.sset
  ok := ok }
/-- one of the numbers is stored -/
theorem IsDiskW.store {w : World} {b : Nat} {D D' : Dsk} {x : DWit} (h : IsDiskW w b D x) (i : Nat) (u : Value)
 (hb : (#[.map (some x.mf), x.q, .map (some x.ms), .int .i64 D.lost, .bool D.down, .int .i64 D.armed, x.kp] : Array Value).setIfInBounds i u = #[.map (some x.mf), x.q, .map (some x.ms), .int .i64 D'.lost, .bool D'.down, .int .i64 D'.armed, x.kp])
 (e1 : D'.file = D.file) (e2 : D'.queue = D.queue) (e3 : D'.keep = D.keep) (ok : D'.Ok) : IsDiskW (w.setCell ⟨b, i, none⟩ u) b D' x :=
 h.reblk ((Only.refl (oneF b) w).setCell (p := ⟨b, i, none⟩) (.inl rfl) u) (by have := h.blk.set_ i u; rw [hb] at this; exact this) e1 e2 e3 ok
theorem IsDiskW.look {w : World} {b : Nat} {D : Dsk} {x : DWit} (h : IsDiskW w b D x) (f : Int) :
 (Instr.lookup 54 (.map (some x.mf)) (.int .i64 f) false).run Tryz.prog w = .ok (.agg #[strV (D.file f).1, strV (D.file f).2]) w := by
 have := run_lookup_assoc keyEqI Tryz.underlying54 (zeroFile w) h.fm f
 rw [this]
 have e := h.abs f
 cases ha : assoc f x.fl with
 | none => rw [ha] at e; simp at e; simp [← e]
 | some y => rw [ha] at e; simp at e; simp [← e]
end Go.Proofs.YtdegmpigkgkafaaGreatDoor
