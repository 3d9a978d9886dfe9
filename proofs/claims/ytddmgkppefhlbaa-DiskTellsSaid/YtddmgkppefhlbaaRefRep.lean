/-
  The reference's disk in memory: what its block and its rows stand for. No condition: definitions and plain lemmas.
-/
import Derived.Test.YtddmgkppefhlbaaDskRep
import Derived.Test.YtddmgkppefhlbaaDsk2
namespace Go.Proofs.Ytddmgkppefhlbaa
set_option linter.unusedVariables false
set_option linter.unusedSimpArgs false
set_option linter.unusedSectionVars false
open Go.RowKit

@[go_sem] theorem run_field_rfile0 (a c d : Value) (w : World) : (Instr.field 65 (.agg #[a, c, d]) 0).run Try.prog w = .ok a w := by
  simp [Instr.field, run_underlying Try.underlying65, go_sem, isAgg, run_underlying Try.underlying9, asAgg]
@[go_sem] theorem run_field_rfile1 (a c d : Value) (w : World) : (Instr.field 65 (.agg #[a, c, d]) 1).run Try.prog w = .ok c w := by
  simp [Instr.field, run_underlying Try.underlying65, go_sem, isAgg, run_underlying Try.underlying9, asAgg]
@[go_sem] theorem run_field_rfile2 (a c d : Value) (w : World) : (Instr.field 65 (.agg #[a, c, d]) 2).run Try.prog w = .ok d w := by
  simp [Instr.field, run_underlying Try.underlying65, go_sem, isAgg, run_underlying Try.underlying9, asAgg]

structure RWit where
  fv : Value
  q : Value
  kp : Value
  fl : List (Int × Str × Str)

def fileCells (fl : List (Int × Str × Str)) : List Value := fl.flatMap fun y => [.int .i64 y.1, strV y.2.1, strV y.2.2]
def rlook (f : Int) : List (Int × Str × Str) → Str × Str
  | [] => ([], [])
  | y :: l => if y.1 = f then y.2 else rlook f l
def RWit.foot (x : RWit) (b : Nat) : Foot := ⟨fun k => k = b ∨ x.fv.ownBlock = some k ∨ x.q.ownBlock = some k, fun k => x.kp.ownBlock = some k⟩

structure IsRefW (w : World) (b : Nat) (D : Dsk) (x : RWit) : Prop where
  blk : Blk w b 60 #[x.fv, x.q, .int .i64 D.lost, .bool D.down, .int .i64 D.armed, x.kp]
  fo : w.ownsRow 0 65 3 x.fv x.fl.length (fileCells x.fl)
  own : w.ownsRow 0 78 2 x.q D.queue.length (secCells D.queue)
  kpo : w.ownsRow 0 3 1 x.kp D.keep.length (D.keep.map (Value.int .i64))
  abs : ∀ f, rlook f x.fl = D.file f
  keys : (x.fl.map (·.1)).Nodup
  fkey : ∀ y ∈ x.fl, 0 ≤ y.1 ∧ y.1 < 16
  ok : D.Ok

def IsRef (w : World) (b : Nat) (D : Dsk) (F : Foot) : Prop := ∃ x, IsRefW w b D x ∧ F = x.foot b
def RefTo (w : World) (b : Nat) (F : Foot) (D' : Dsk) (w' : World) : Prop := ∃ F', IsRef w' b D' F' ∧ Only F.m w w' ∧ (∀ k, F'.m k → F.m k ∨ w.heap.size ≤ k) ∧ ∀ k, F'.r k → F.r k ∨ w.heap.size ≤ k

theorem IsRefW.foot_lt {w : World} {b : Nat} {D : Dsk} {x : RWit} (h : IsRefW w b D x) : ∀ k, (x.foot b).all k → k < w.heap.size := by
  rintro k ((rfl | hk | hk) | hk)
  · exact h.blk.lt
  · exact own_lt h.fo k hk
  · exact own_lt h.own k hk
  · exact own_lt h.kpo k hk
theorem IsRefW.only {w w' : World} {G : Nat → Prop} {b : Nat} {D : Dsk} {x : RWit} (h : IsRefW w b D x) (ho : Only G w w') (hG : ∀ k, (x.foot b).all k → ¬ G k) : IsRefW w' b D x :=
  { h with
    blk := h.blk.only ho (hG _ (.inl (.inl rfl)))
    fo := own_only h.fo ho fun k hk => hG k (.inl (.inr (.inl hk)))
    own := own_only h.own ho fun k hk => hG k (.inl (.inr (.inr hk)))
    kpo := own_only h.kpo ho fun k hk => hG k (.inr hk) }
theorem IsRef.only {w w' : World} {F : Foot} {G : Nat → Prop} {b : Nat} {D : Dsk} (h : IsRef w b D F) (ho : Only G w w') (hG : ∀ k, F.all k → ¬ G k) : IsRef w' b D F := by
  obtain ⟨x, h, rfl⟩ := h
  exact ⟨x, h.only ho hG, rfl⟩
theorem RefTo.same {w : World} {F : Foot} {b : Nat} {D : Dsk} (h : IsRef w b D F) : RefTo w b F D w := ⟨F, h, Only.refl F.m w, fun _ hk => .inl hk, fun _ hk => .inl hk⟩
theorem RefTo.trans {w w1 w2 : World} {F F1 : Foot} {b : Nat} {D2 : Dsk} (ho : Only F.m w w1) (hF : ∀ k, F1.m k → F.m k ∨ w.heap.size ≤ k) (hR : ∀ k, F1.r k → F.r k ∨ w.heap.size ≤ k) (h : RefTo w1 b F1 D2 w2) : RefTo w b F D2 w2 := by
  obtain ⟨F2, h2, o2, f2, r2⟩ := h
  refine ⟨F2, h2, ho.trans o2 hF, fun k hk => ?_, fun k hk => ?_⟩
  · rcases f2 k hk with h | h
    · exact hF k h
    · have := ho.size; exact .inr (by omega)
  · rcases r2 k hk with h | h
    · exact hR k h
    · have := ho.size; exact .inr (by omega)
theorem RefTo.then_ {w w1 w2 : World} {F : Foot} {b : Nat} {D1 D2 : Dsk} (h1 : RefTo w b F D1 w1) (h2 : ∀ F1, IsRef w1 b D1 F1 → RefTo w1 b F1 D2 w2) : RefTo w b F D2 w2 := by
  obtain ⟨F1, i1, o1, f1, r1⟩ := h1
  exact RefTo.trans o1 f1 r1 (h2 F1 i1)

theorem IsRefW.cells {w : World} {b : Nat} {D : Dsk} {x : RWit} (h : IsRefW w b D x) :
    w.cell? ⟨b, 0, none⟩ = some x.fv ∧ w.cell? ⟨b, 1, none⟩ = some x.q ∧ w.cell? ⟨b, 2, none⟩ = some (.int .i64 D.lost) ∧ w.cell? ⟨b, 3, none⟩ = some (.bool D.down) ∧
    w.cell? ⟨b, 4, none⟩ = some (.int .i64 D.armed) ∧ w.cell? ⟨b, 5, none⟩ = some x.kp :=
  ⟨h.blk.cell 0, h.blk.cell 1, h.blk.cell 2, h.blk.cell 3, h.blk.cell 4, h.blk.cell 5⟩

theorem IsRefW.apart {w : World} {b : Nat} {D : Dsk} {x : RWit} (h : IsRefW w b D x) :
    (∀ g, x.fv.ownBlock = some g → g ≠ b ∧ x.q.ownBlock ≠ some g ∧ x.kp.ownBlock ≠ some g) ∧ (∀ g, x.q.ownBlock = some g → g ≠ b ∧ x.fv.ownBlock ≠ some g ∧ x.kp.ownBlock ≠ some g) ∧
    (∀ g, x.kp.ownBlock = some g → g ≠ b ∧ x.fv.ownBlock ≠ some g ∧ x.q.ownBlock ≠ some g) := by
  have key : ∀ g : Nat, ∀ {t1 t2 : TypeId} {s1 s2 n1 n2 : Nat} {v1 v2 : Value} {c1 c2 : List Value}, w.ownsRow 0 t1 s1 v1 n1 c1 → w.ownsRow 0 t2 s2 v2 n2 c2 → t1 ≠ t2 → v1.ownBlock = some g → v2.ownBlock ≠ some g := by
    intro g t1 t2 s1 s2 n1 n2 v1 v2 c1 c2 h1 h2 hne e1 e2
    obtain ⟨_, a1⟩ := own_type h1 g e1
    obtain ⟨_, a2⟩ := own_type h2 g e2
    exact a1.ne_ a2 hne rfl
  have kb : ∀ g : Nat, ∀ {t1 : TypeId} {s1 n1 : Nat} {v1 : Value} {c1 : List Value}, w.ownsRow 0 t1 s1 v1 n1 c1 → t1 ≠ 60 → v1.ownBlock = some g → g ≠ b := by
    intro g t1 s1 n1 v1 c1 h1 hne e1
    obtain ⟨_, a1⟩ := own_type h1 g e1
    exact a1.ne_ h.blk hne
  exact ⟨fun g hg => ⟨kb g h.fo (by decide) hg, key g h.fo h.own (by decide) hg, key g h.fo h.kpo (by decide) hg⟩,
    fun g hg => ⟨kb g h.own (by decide) hg, key g h.own h.fo (by decide) hg, key g h.own h.kpo (by decide) hg⟩,
    fun g hg => ⟨kb g h.kpo (by decide) hg, key g h.kpo h.fo (by decide) hg, key g h.kpo h.own (by decide) hg⟩⟩

theorem IsRefW.to {w w' : World} {b : Nat} {D' : Dsk} {x x' : RWit} {F : Foot} (h' : IsRefW w' b D' x') (ho : Only F.m w w') (hF : F = x.foot b) (hx : ∀ k, (x'.foot b).m k → (x.foot b).m k ∨ w.heap.size ≤ k)
    (hr : ∀ k, x'.kp.ownBlock = some k → x.kp.ownBlock = some k ∨ w.heap.size ≤ k := by exact fun _ hk => .inl hk) : RefTo w b F D' w' :=
  ⟨_, ⟨x', h', rfl⟩, ho, fun k hk => by rw [hF]; exact hx k hk, fun k hk => by rw [hF]; exact hr k hk⟩

/-- only the disk's own block has turned, and in it the numbers alone -/
theorem IsRefW.reblk {w w' : World} {b : Nat} {D D' : Dsk} {x : RWit} (h : IsRefW w b D x) (ho : Only (oneF b) w w')
    (hb : Blk w' b 60 #[x.fv, x.q, .int .i64 D'.lost, .bool D'.down, .int .i64 D'.armed, x.kp])
    (e1 : D'.file = D.file) (e2 : D'.queue = D.queue) (e3 : D'.keep = D.keep) (ok : D'.Ok) : IsRefW w' b D' x := by
  obtain ⟨a1, a2, a3⟩ := h.apart
  exact {
    blk := hb
    fo := own_only h.fo ho fun k hk => (a1 k hk).1
    own := by rw [e2]; exact own_only h.own ho fun k hk => (a2 k hk).1
    kpo := by rw [e3]; exact own_only h.kpo ho fun k hk => (a3 k hk).1
    abs := by rw [e1]; exact h.abs
    keys := h.keys
    fkey := h.fkey
    ok := ok }
theorem IsRefW.store {w : World} {b : Nat} {D D' : Dsk} {x : RWit} (h : IsRefW w b D x) (i : Nat) (u : Value)
    (hb : (#[x.fv, x.q, .int .i64 D.lost, .bool D.down, .int .i64 D.armed, x.kp] : Array Value).setIfInBounds i u = #[x.fv, x.q, .int .i64 D'.lost, .bool D'.down, .int .i64 D'.armed, x.kp])
    (e1 : D'.file = D.file) (e2 : D'.queue = D.queue) (e3 : D'.keep = D.keep) (ok : D'.Ok) : IsRefW (w.setCell ⟨b, i, none⟩ u) b D' x :=
  h.reblk ((Only.refl (oneF b) w).setCell (p := ⟨b, i, none⟩) (.inl rfl) u) (by have := h.blk.set_ i u; rw [hb] at this; exact this) e1 e2 e3 ok

theorem IsRefW.len {w : World} {b : Nat} {D : Dsk} {x : RWit} (h : IsRefW w b D x) : x.fl.length ≤ 16 := by
  have := nodup_length_le 16 (x.fl.map fun y => y.1.toNat) ?_ ?_
  · simpa using this
  · have h1 := h.keys
    have h2 := h.fkey
    generalize x.fl = l at h1 h2
    induction l with
    | nil => simp
    | cons y l ih =>
      rw [List.map_cons, List.nodup_cons] at h1 ⊢
      refine ⟨fun hm => h1.1 ?_, ih h1.2 fun z hz => h2 z (by simp [hz])⟩
      obtain ⟨z, hz, e⟩ := List.mem_map.1 hm
      refine List.mem_map.2 ⟨z, hz, ?_⟩
      have a := h2 y (by simp)
      have c := h2 z (by simp [hz])
      omega
  · intro n hn
    obtain ⟨y, hy, rfl⟩ := List.mem_map.1 hn
    have := h.fkey y hy
    omega
end Go.Proofs.Ytddmgkppefhlbaa
