/-
  The reference's disk in memory: what its block and its rows stand for. No condition: definitions and plain lemmas.
  The reference's disk, walked: get, set, pending and the small calls.
  The reference's disk, walked: pending, set.
  The reference's disk, walked: set.
  The reference's disk, walked: add.
  The reference's disk, walked: settle, Read, Arm, New.
  The reference's disk, walked: survive.
  The reference's disk, walked: Crash.
  The reference's disk, walked: comes, Write, Sync, Truncate.
  The reference's disk, walked: Write, Sync, Truncate.
-/
import Derived.Test.YtdegmpigkgkafaaGreatDoorDskRep
import Derived.Test.YtdegmpigkgkafaaGreatDoorDsk2
import Derived.Test.YtdegmpigkgkafaaGreatDoorDskW3
import Derived.Test.YtdegmpigkgkafaaGreatDoorRegion
import Derived.Test.YtdegmpigkgkafaaGreatDoorClone
import Derived.Test.YtdegmpigkgkafaaGreatDoorDW
import Derived.Deep.QuietTactic
import Derived.BigQuiet
import Derived.Test.YtdegmpigkgkafaaGreatDoorDskW2
namespace Go.Proofs.YtdegmpigkgkafaaGreatDoor
set_option maxHeartbeats 4000000
set_option maxRecDepth 100000
set_option linter.unusedVariables false
set_option linter.unusedSimpArgs false
set_option linter.unusedSectionVars false
set_option maxRecDepth 20000
section
open Go.RowKit
@[go_sem] theorem run_field_rfile1 (a c d : Value) (w : World) : (Instr.field 92 (.agg #[a, c, d]) 1).run Tryz.prog w = .ok c w := by
 simp [Instr.field, run_underlying Tryz.underlying92, go_sem, isAgg, run_underlying Tryz.underlying9, asAgg]
structure RWit where
 fv : Value
 q : Value
 kp : Value
 fl : List (Int × Str × Str)
def fileCells (fl : List (Int × Str × Str)) : List Value := fl.flatMap fun y => [.int .i64 y.1, strV y.2.1, strV y.2.2]
def rlook (f : Int) : List (Int × Str × Str) → Str × Str
 | [] => ([], [])
 | y :: l => if y.1 = f then y.2 else rlook f l
def RWit.foot (x : RWit) (b : Nat) : Foot := ⟨fun k => k = b ∨ x.fv.ownBlock = some k ∨ x.q.ownBlock = some k, fun k => x.kp.ownBlock = some k⟩
structure IsRefW (w : World) (b : Nat) (D : Dsk) (x : RWit) : Prop where
 blk : Blk w b 62 #[x.fv, x.q, .int .i64 D.lost, .bool D.down, .int .i64 D.armed, x.kp]
 fo : w.ownsRow 0 92 3 x.fv x.fl.length (fileCells x.fl)
 own : w.ownsRow 0 90 2 x.q D.queue.length (secCells D.queue)
 kpo : w.ownsRow 0 3 1 x.kp D.keep.length (D.keep.map (Value.int .i64))
 abs : ∀ f, rlook f x.fl = D.file f
 keys : (x.fl.map (·.1)).Nodup
 fkey : ∀ y ∈ x.fl, 0 ≤ y.1 ∧ y.1 < 16
 ok : D.Ok
def IsRef (w : World) (b : Nat) (D : Dsk) (F : Foot) : Prop := ∃ x, IsRefW w b D x ∧ F = x.foot b
def RefTo (w : World) (b : Nat) (F : Foot) (D' : Dsk) (w' : World) : Prop := ∃ F', IsRef w' b D' F' ∧ Only F.m w w' ∧ (∀ k, F'.m k → F.m k ∨ w.heap.size ≤ k) ∧ ∀ k, F'.r k → F.r k ∨ w.heap.size ≤ k
theorem IsRefW.foot_lt {w : World} {b : Nat} {D : Dsk} {x : RWit} (h : IsRefW w b D x) : ∀ k, (x.foot b).all k → k < w.heap.size := by
 rintro k ((rfl | hk | hk) | hk)
 · exact h.blk.lt
 · exact own_lt h.fo k hk
 · exact own_lt h.own k hk
 · exact own_lt h.kpo k hk
theorem IsRefW.only {w w' : World} {G : Nat → Prop} {b : Nat} {D : Dsk} {x : RWit} (h : IsRefW w b D x) (ho : Only G w w') (hG : ∀ k, (x.foot b).all k → ¬ G k) : IsRefW w' b D x :=
 { h with
  blk := h.blk.only ho (hG _ (.inl (.inl rfl)))
  fo := own_only h.fo ho fun k hk => hG k (.inl (.inr (.inl hk)))
  own := own_only h.own ho fun k hk => hG k (.inl (.inr (.inr hk)))
  kpo := own_only h.kpo ho fun k hk => hG k (.inr hk) }
theorem IsRef.only {w w' : World} {F : Foot} {G : Nat → Prop} {b : Nat} {D : Dsk} (h : IsRef w b D F) (ho : Only G w w') (hG : ∀ k, F.all k → ¬ G k) : IsRef w' b D F := by
 obtain ⟨x, h, rfl⟩ := h
 exact ⟨x, h.only ho hG, rfl⟩
theorem RefTo.same {w : World} {F : Foot} {b : Nat} {D : Dsk} (h : IsRef w b D F) : RefTo w b F D w := ⟨F, h, Only.refl F.m w, fun _ hk => .inl hk, fun _ hk => .inl hk⟩
theorem RefTo.trans {w w1 w2 : World} {F F1 : Foot} {b : Nat} {D2 : Dsk} (ho : Only F.m w w1) (hF : ∀ k, F1.m k → F.m k ∨ w.heap.size ≤ k) (hR : ∀ k, F1.r k → F.r k ∨ w.heap.size ≤ k) (h : RefTo w1 b F1 D2 w2) : RefTo w b F D2 w2 := by
 obtain ⟨F2, h2, o2, f2, r2⟩ := h
 refine ⟨F2, h2, ho.trans o2 hF, fun k hk => ?_, fun k hk => ?_⟩
 · rcases f2 k hk with h | h
   · exact hF k h
   · have := ho.size; exact .inr (by omega)
 · rcases r2 k hk with h | h
   · exact hR k h
   · have := ho.size; exact .inr (by omega)
theorem IsRefW.cells {w : World} {b : Nat} {D : Dsk} {x : RWit} (h : IsRefW w b D x) :
 w.cell? ⟨b, 0, none⟩ = some x.fv ∧ w.cell? ⟨b, 1, none⟩ = some x.q ∧ w.cell? ⟨b, 2, none⟩ = some (.int .i64 D.lost) ∧ w.cell? ⟨b, 3, none⟩ = some (.bool D.down) ∧
 w.cell? ⟨b, 4, none⟩ = some (.int .i64 D.armed) ∧ w.cell? ⟨b, 5, none⟩ = some x.kp :=
 ⟨h.blk.cell 0, h.blk.cell 1, h.blk.cell 2, h.blk.cell 3, h.blk.cell 4, h.blk.cell 5⟩
theorem IsRefW.apart {w : World} {b : Nat} {D : Dsk} {x : RWit} (h : IsRefW w b D x) :
 (∀ g, x.fv.ownBlock = some g → g ≠ b ∧ x.q.ownBlock ≠ some g ∧ x.kp.ownBlock ≠ some g) ∧ (∀ g, x.q.ownBlock = some g → g ≠ b ∧ x.fv.ownBlock ≠ some g ∧ x.kp.ownBlock ≠ some g) ∧
 (∀ g, x.kp.ownBlock = some g → g ≠ b ∧ x.fv.ownBlock ≠ some g ∧ x.q.ownBlock ≠ some g) := by
 have key : ∀ g : Nat, ∀ {t1 t2 : TypeId} {s1 s2 n1 n2 : Nat} {v1 v2 : Value} {c1 c2 : List Value}, w.ownsRow 0 t1 s1 v1 n1 c1 → w.ownsRow 0 t2 s2 v2 n2 c2 → t1 ≠ t2 → v1.ownBlock = some g → v2.ownBlock ≠ some g := by
  intro g t1 t2 s1 s2 n1 n2 v1 v2 c1 c2 h1 h2 hne e1 e2
  obtain ⟨_, a1⟩ := own_type h1 g e1
  obtain ⟨_, a2⟩ := own_type h2 g e2
  exact a1.ne_ a2 hne rfl
 have kb : ∀ g : Nat, ∀ {t1 : TypeId} {s1 n1 : Nat} {v1 : Value} {c1 : List Value}, w.ownsRow 0 t1 s1 v1 n1 c1 → t1 ≠ 62 → v1.ownBlock = some g → g ≠ b := by
  intro g t1 s1 n1 v1 c1 h1 hne e1
  obtain ⟨_, a1⟩ := own_type h1 g e1
  exact a1.ne_ h.blk hne
 exact ⟨fun g hg => ⟨kb g h.fo (by decide) hg, key g h.fo h.own (by decide) hg, key g h.fo h.kpo (by decide) hg⟩,
  fun g hg => ⟨kb g h.own (by decide) hg, key g h.own h.fo (by decide) hg, key g h.own h.kpo (by decide) hg⟩,
  fun g hg => ⟨kb g h.kpo (by decide) hg, key g h.kpo h.fo (by decide) hg, key g h.kpo h.own (by decide) hg⟩⟩
theorem IsRefW.to {w w' : World} {b : Nat} {D' : Dsk} {x x' : RWit} {F : Foot} (h' : IsRefW w' b D' x') (ho : Only F.m w w') (hF : F = x.foot b) (hx : ∀ k, (x'.foot b).m k → (x.foot b).m k ∨ w.heap.size ≤ k)
 (hr : ∀ k, x'.kp.ownBlock = some k → x.kp.ownBlock = some k ∨ w.heap.size ≤ k := by exact fun _ hk => .inl hk) : RefTo w b F D' w' :=
 ⟨_, ⟨x', h', rfl⟩, ho, fun k hk => by rw [hF]; exact hx k hk, fun k hk => by rw [hF]; exact hr k hk⟩
/-- only the disk's own block has turned, and in it the numbers alone -/
theorem IsRefW.reblk {w w' : World} {b : Nat} {D D' : Dsk} {x : RWit} (h : IsRefW w b D x) (ho : Only (oneF b) w w')
 (hb : Blk w' b 62 #[x.fv, x.q, .int .i64 D'.lost, .bool D'.down, .int .i64 D'.armed, x.kp])
 (e1 : D'.file = D.file) (e2 : D'.queue = D.queue) (e3 : D'.keep = D.keep) (ok : D'.Ok) : IsRefW w' b D' x := by
 obtain ⟨a1, a2, a3⟩ := h.apart
 exact {
  blk := hb
  fo := own_only h.fo ho fun k hk => (a1 k hk).1
  own := by rw [e2]; exact own_only h.own ho fun k hk => (a2 k hk).1
  kpo := by rw [e3]; exact own_only h.kpo ho fun k hk => (a3 k hk).1
  abs := by rw [e1]; exact h.abs
  keys := h.keys
  fkey := h.fkey
  ok := ok }
theorem IsRefW.store {w : World} {b : Nat} {D D' : Dsk} {x : RWit} (h : IsRefW w b D x) (i : Nat) (u : Value)
 (hb : (#[x.fv, x.q, .int .i64 D.lost, .bool D.down, .int .i64 D.armed, x.kp] : Array Value).setIfInBounds i u = #[x.fv, x.q, .int .i64 D'.lost, .bool D'.down, .int .i64 D'.armed, x.kp])
 (e1 : D'.file = D.file) (e2 : D'.queue = D.queue) (e3 : D'.keep = D.keep) (ok : D'.Ok) : IsRefW (w.setCell ⟨b, i, none⟩ u) b D' x :=
 h.reblk ((Only.refl (oneF b) w).setCell (p := ⟨b, i, none⟩) (.inl rfl) u) (by have := h.blk.set_ i u; rw [hb] at this; exact this) e1 e2 e3 ok
theorem IsRefW.len {w : World} {b : Nat} {D : Dsk} {x : RWit} (h : IsRefW w b D x) : x.fl.length ≤ 16 := by
 have := nodup_length_le 16 (x.fl.map fun y => y.1.toNat) ?_ ?_
 · simpa using this
 · have h1 := h.keys
   have h2 := h.fkey
   generalize x.fl = l at h1 h2
   induction l with
   | nil => simp
   | cons y l ih =>
    rw [List.map_cons, List.nodup_cons] at h1 ⊢
    refine ⟨fun hm => h1.1 ?_, ih h1.2 fun z hz => h2 z (by simp [hz])⟩
    obtain ⟨z, hz, e⟩ := List.mem_map.1 hm
    refine List.mem_map.2 ⟨z, hz, ?_⟩
    have a := h2 y (by simp)
    have c := h2 z (by simp [hz])
    omega
 · intro n hn
   obtain ⟨y, hy, rfl⟩ := List.mem_map.1 hn
   have := h.fkey y hy
   omega
end
section
open Go.RowKit
section
variable {w : World} {b : Nat} {D : Dsk} {F : Foot}
theorem fileCells_cons (y : Int × Str × Str) (l : List (Int × Str × Str)) : fileCells (y :: l) = .int .i64 y.1 :: strV y.2.1 :: strV y.2.2 :: fileCells l := rfl
theorem fileCells_get : ∀ (l : List (Int × Str × Str)) (j : Nat) (hj : j < l.length), (fileCells l)[j * 3]? = some (.int .i64 l[j].1) ∧ (fileCells l)[j * 3 + 1]? = some (strV l[j].2.1) ∧ (fileCells l)[j * 3 + 2]? = some (strV l[j].2.2)
 | [], j, hj => by simp at hj
 | p :: q, 0, _ => ⟨rfl, rfl, rfl⟩
 | p :: q, j + 1, hj => by
  have := fileCells_get q j (by simpa using hj)
  rw [fileCells_cons, show (j + 1) * 3 = j * 3 + 1 + 1 + 1 by omega]
  simpa using this
theorem rlook_none {f : Int} : ∀ {l : List (Int × Str × Str)}, (∀ y ∈ l, y.1 ≠ f) → rlook f l = ([], [])
 | [], _ => rfl
 | y :: l, h => by
  unfold rlook
  rw [if_neg (h y (by simp))]
  exact rlook_none fun z hz => h z (by simp [hz])
theorem rlook_get {f : Int} : ∀ {l : List (Int × Str × Str)} {j : Nat} (hj : j < l.length), (∀ y ∈ l.take j, y.1 ≠ f) → l[j].1 = f → rlook f l = l[j].2
 | y :: l, 0, _, _, h => by
  unfold rlook
  rw [if_pos (by simpa using h)]
  rfl
 | y :: l, j + 1, hj, h, h2 => by
  unfold rlook
  rw [if_neg (h y (by simp))]
  exact rlook_get (by simpa using hj) (fun z hz => h z (by simp [hz])) h2
theorem rget_c (h : IsRef w b D F) (f : Int) : Calls Tryz.prog 64 #[.pointer (some ⟨b, 0, none⟩), .int .i64 f] w fun e w' => e = .returned (.agg #[.int .i64 f, strV (D.file f).1, strV (D.file f).2]) ∧ Below w.heap.size w w' := by
 obtain ⟨x, h, _⟩ := h
 obtain ⟨A, c, e, hc1, hc2, hr⟩ := Reads.of_own h.fo
 have ha := h.abs f
 have hl := h.len
 obtain ⟨d0, _⟩ := h.cells
 rw [e] at d0
 have hbl := h.blk.lt
 have hne : ¬ b = w.heap.size := by omega
 have HR := Lib.hid hr
 have HA := Lib.hid ha
 clear h ha hr
 go_enter Tryz.func64, Tryz.ntmps64
 go_wp2
 go_loopw [5] (fun v wr => ∃ j : Nat, j ≤ x.fl.length ∧ v = .int .i64 (j : Int) ∧ (∀ y ∈ x.fl.take j, y.1 ≠ f) ∧ Below w.heap.size w wr ∧ Blk wr w.heap.size 92 #[.int .i64 0, strV [], strV []]) (fun v _ => x.fl.length - (intOf v).toNat)
 case atStart => exact ⟨0, by omega, by go_num, by simp, (Below.refl _ _).alloc (Nat.le_refl _) _, Blk.new w _ _⟩
 case round =>
  obtain ⟨j, hj, rfl, hn, hB, hK⟩ := hrel
  have e0 := (hB.cell (p := ⟨b, 0, none⟩) hbl).trans d0
  have k0 := hK.cell 0
  have k1 := hK.cell 1
  have k2 := hK.cell 2
  have z0 := hK.frozen 0
  have z1 := hK.frozen 1
  have z2 := hK.frozen 2
  have HB := Lib.hid hB
  have HK := Lib.hid hK
  clear hB hK
  by_cases hlt : j < x.fl.length
  · obtain ⟨g, off, rfl, _, hg, hcc⟩ := HR.out.form (by omega) (by decide)
    obtain ⟨c0, c1, c2⟩ := fileCells_get x.fl j hlt
    have q0 : _ = _ := (HB.out.cell (p := ⟨g, off + j * 3, none⟩) hg).trans (hcc _ _ c0)
    have q1 : _ = _ := (HB.out.cell (p := ⟨g, off + j * 3 + 1, none⟩) hg).trans (hcc _ _ c1)
    have q2 : _ = _ := (HB.out.cell (p := ⟨g, off + j * 3 + 2, none⟩) hg).trans (hcc _ _ c2)
    clear c0 c1 c2 hcc
    by_cases hf : x.fl[j].1 = f
    · have hb : (x.fl[j].1 == f) = true := by simp [hf]
      have hrl := Lib.hid (rlook_get hlt hn hf)
      go_wp2
      refine bodyPost_ret (results_cell_row rfl _ _ w.heap.size 92 #[.int .i64 f, strV x.fl[j].2.1, strV x.fl[j].2.2] (0, 0) _ rfl ?_ Tryz.underlying92 rfl (by kernel_rfl)) rfl ?_
      · have := ((HK.out.set_ 0 (.int .i64 f)).set_ 1 (strV x.fl[j].2.1)).set_ 2 (strV x.fl[j].2.2)
        exact this
      · refine ⟨by rw [← HA.out, hrl.out], (((HB.out.setCell (p := ⟨w.heap.size, 0, none⟩) (Nat.le_refl _) _).setCell (p := ⟨w.heap.size, 1, none⟩) (Nat.le_refl _) _).setCell (p := ⟨w.heap.size, 2, none⟩) (Nat.le_refl _) _)⟩
    · have hb : (x.fl[j].1 == f) = false := by simp [hf]
      have Hn := Lib.hid hn
      clear hn
      go_wp2
      go_roundw
      case rel =>
       refine ⟨j + 1, by omega, by go_num, fun y hy => ?_, HB.out, HK.out⟩
       rw [List.take_add_one, List.getElem?_eq_getElem hlt] at hy
       rcases List.mem_append.1 hy with hy | hy
       · exact Hn.out y hy
       · simp at hy; rw [hy]; exact hf
      case measure => simp [intOf]; omega
  · have hrl := Lib.hid (rlook_none (f := f) (l := x.fl) (by rw [List.take_of_length_le (by omega)] at hn; exact hn))
    clear hn
    go_wp2
    refine bodyPost_ret (results_cell_row rfl _ _ w.heap.size 92 #[.int .i64 f, strV [], strV []] (0, 0) _ rfl ?_ Tryz.underlying92 rfl (by kernel_rfl)) rfl ?_
    · have := ((HK.out.set_ 0 (.int .i64 f)).set_ 1 (strV [])).set_ 2 (strV [])
      exact this
    · refine ⟨by rw [← HA.out, hrl.out], (((HB.out.setCell (p := ⟨w.heap.size, 0, none⟩) (Nat.le_refl _) _).setCell (p := ⟨w.heap.size, 1, none⟩) (Nat.le_refl _) _).setCell (p := ⟨w.heap.size, 2, none⟩) (Nat.le_refl _) _)⟩
theorem rSize_c (h : IsRef w b D F) (f : Int) : Calls Tryz.prog 58 #[.pointer (some ⟨b, 0, none⟩), .int .i64 f] w fun e w' => e = .returned (.int .i64 (D.size f)) ∧ Below w.heap.size w w' := by
 have hg := rget_c h f
 go_enter Tryz.func58, Tryz.ntmps58
 go_wp2_with (go_at_call 64; refine hg.mono ?_; rintro e w' ⟨rfl, hB⟩)
 go_ret
 exact ⟨rfl, hB⟩
theorem rmay_c (h : IsRef w b D F) (f : Int) : Calls Tryz.prog 90 #[.pointer (some ⟨b, 0, none⟩), .int .i64 f] w fun e w' => e = .returned (.int .i64 (D.may f)) ∧ w = w' := by
 obtain ⟨x, h, _⟩ := h
 obtain ⟨_, _, _, h4, _, _⟩ := h.cells
 clear h
 cases hd : D.down with
 | true =>
  have e : D.may f = 8 := by simp [Dsk.may, hd]
  rw [e]
  rw [hd] at h4
  clear hd e
  go_enter Tryz.func90, Tryz.ntmps90
  go_wp2
  go_ret
  exact ⟨rfl, rfl⟩
 | false =>
  rw [hd] at h4
  by_cases hf : f < 0 ∨ 16 ≤ f
  · have e : D.may f = 1 := by simp [Dsk.may, hd, hf]
    rw [e]
    clear hd e
    go_enter Tryz.func90, Tryz.ntmps90
    go_wp2
    all_goals (go_ret; exact ⟨rfl, rfl⟩)
  · have e : D.may f = 0 := by simp [Dsk.may, hd, hf]
    rw [e]
    have h0 : 0 ≤ f := by omega
    have h1 : f < 16 := by omega
    clear hd e hf
    go_enter Tryz.func90, Tryz.ntmps90
    go_wp2
    go_ret
    exact ⟨rfl, rfl⟩
theorem rStart_c (h : IsRef w b D F) : Calls Tryz.prog 17 #[.pointer (some ⟨b, 0, none⟩)] w fun e w' => e = .returned (.tuple #[]) ∧ RefTo w b F D.start w' := by
 obtain ⟨x, h, hF⟩ := h
 obtain ⟨_, _, _, h4, _, _⟩ := h.cells
 have hf := h.blk.frozen 3
 have Hx := Lib.hid (h.store (D' := D.start) 3 (.bool false) rfl rfl rfl rfl h.ok.start)
 clear h
 go_enter Tryz.func17, Tryz.ntmps17
 go_wp2
 go_end0
 exact ⟨rfl, Hx.out.to ((Only.refl F.m w).setCell (.inl (by rw [hF]; exact .inl rfl)) _) hF fun k hk => .inl hk⟩
theorem rLose_c (h : IsRef w b D F) (n : Int) (hn : I64 n) : Calls Tryz.prog 11 #[.pointer (some ⟨b, 0, none⟩), .int .i64 n] w fun e w' => e = .returned (.tuple #[]) ∧ RefTo w b F (D.lose n) w' := by
 obtain ⟨x, h, hF⟩ := h
 obtain ⟨_, _, h3, _, _, _⟩ := h.cells
 have hf := h.blk.frozen 2
 have HF := Lib.hid hF
 have Hx := fun u e => h.store (D' := D.lose n) 2 (.int .i64 u) (by rw [show u = (D.lose n).lost from e]; rfl) rfl rfl rfl (h.ok.lose n hn)
 have hx := Lib.hid Hx
 clear Hx hF h
 go_enter Tryz.func11, Tryz.ntmps11
 go_wp2
 all_goals
  go_end0
  exact ⟨rfl, (hx.out _ (by simp only [Dsk.lose]; omega)).to ((Only.refl F.m w).setCell (.inl (by rw [HF.out]; exact .inl rfl)) _) HF.out fun k hk => .inl hk⟩
end
end
section
open Go.RowKit
section
variable {w : World} {b : Nat} {D : Dsk} {F : Foot}
theorem rpending_c (h : IsRef w b D F) (f n : Int) : Calls Tryz.prog 125 #[.pointer (some ⟨b, 0, none⟩), .int .i64 f, .int .i64 n] w fun e w' => e = .returned (.bool (decide ((f, n) ∈ D.queue))) ∧ w = w' := by
 obtain ⟨x, h, _⟩ := h
 obtain ⟨A, c, e, hc1, hc2, hr⟩ := Reads.of_own h.own
 have hl := h.ok.qlen
 obtain ⟨_, d1, _⟩ := h.cells
 rw [e] at d1
 have HR := Lib.hid hr
 clear h hr
 go_enter Tryz.func125, Tryz.ntmps125
 go_wp2
 go_loopw [7] (fun v wr => ∃ j : Nat, j ≤ D.queue.length ∧ v = .int .i64 (j : Int) ∧ (∀ p ∈ D.queue.take j, p ≠ (f, n)) ∧ wr = w) (fun v _ => D.queue.length - (intOf v).toNat)
 case atStart => exact ⟨0, by omega, by go_num, by simp, rfl⟩
 case round =>
  obtain ⟨j, hj, rfl, hn, hw⟩ := hrel
  subst hw
  by_cases hlt : j < D.queue.length
  · obtain ⟨g, off, rfl, _, hg, hcc⟩ := HR.out.form (by omega) (by decide)
    obtain ⟨c0, c1⟩ := secCells_get D.queue j hlt
    have q0 := hcc _ _ c0
    have q1 : wr.cell? ⟨g, off + j * 2 + 1, none⟩ = _ := hcc _ _ c1
    clear c0 c1 hcc
    by_cases h1 : D.queue[j].1 = f
    · have b1 : (D.queue[j].1 == f) = true := by simp [h1]
      by_cases h2 : D.queue[j].2 = n
      · have b2 : (D.queue[j].2 == n) = true := by simp [h2]
        have hm := Lib.hid (show decide ((f, n) ∈ D.queue) = true from by
         have : D.queue[j] = (f, n) := Prod.ext h1 h2
         rw [← this]
         simp)
        go_wp2
        go_ret
        exact ⟨by rw [hm.out]; rfl, rfl⟩
      · have b2 : (D.queue[j].2 == n) = false := by simp [h2]
        have Hn := Lib.hid hn
        clear hn
        go_wp2
        go_roundw
        case rel =>
         refine ⟨j + 1, by omega, by go_num, fun p hp => ?_, trivial⟩
         rw [List.take_add_one, List.getElem?_eq_getElem hlt] at hp
         rcases List.mem_append.1 hp with hp | hp
         · exact Hn.out p hp
         · simp at hp; rw [hp]; exact fun e => h2 (by rw [e])
        case measure => simp [intOf]; omega
    · have b1 : (D.queue[j].1 == f) = false := by simp [h1]
      have Hn := Lib.hid hn
      clear hn
      go_wp2
      go_roundw
      case rel =>
       refine ⟨j + 1, by omega, by go_num, fun p hp => ?_, trivial⟩
       rw [List.take_add_one, List.getElem?_eq_getElem hlt] at hp
       rcases List.mem_append.1 hp with hp | hp
       · exact Hn.out p hp
       · simp at hp; rw [hp]; exact fun e => h1 (by rw [e])
      case measure => simp [intOf]; omega
  · have hm := Lib.hid (show decide ((f, n) ∈ D.queue) = false from by
     rw [List.take_of_length_le (by omega)] at hn
     simp only [decide_eq_false_iff_not]
     exact fun hm => hn _ hm rfl)
    go_wp2
    go_ret
    exact ⟨by rw [hm.out]; rfl, rfl⟩
end
end
section
open Go.RowKit
theorem info_RFile : (Tryz.prog.info? 92).map (fun i => (i.zero, i.size, i.bytes)) = some (some (.agg #[.int .i64 0, strV [], strV []]), 3, 40) := by kernel_rfl
theorem info_RSec : (Tryz.prog.info? 90).map (fun i => (i.zero, i.size, i.bytes)) = some (some (.agg #[.int .i64 0, .int .i64 0]), 2, 16) := by kernel_rfl
theorem belowN {B : Nat} {a w : World} (h : Below B a w) (n : Nat) : Below B a (w.drewN n) := ⟨h.os, h.tape, h.output, h.size, h.block⟩
theorem belowG {B : Nat} {a c d : World} {row : Option Nat} (h : Below B a c) (hg : c.grownBy d row) (hB : B ≤ c.heap.size) (hr : ∀ k, row = some k → B ≤ k) : Below B a d :=
 ⟨hg.os.trans h.os, hg.tape.trans h.tape, hg.output.trans h.output, Nat.le_trans h.size hg.size, fun i hi => (hg.block i (Nat.lt_of_lt_of_le hi hB) (fun e => by have := hr i e.symm; omega)).trans (h.block i hi)⟩
theorem blkN {w : World} {g : Nat} {t : TypeId} {cs : Array Value} (h : Blk w g t cs) (n : Nat) : Blk (w.drewN n) g t cs := h
/-- the cells of a block that was just made -/
theorem reads_made (w : World) (t : TypeId) (size n : Nat) (cs : List Value) (hl : cs.length = n * size) : Reads (w.alloc (.cells cs.toArray t)) (fun k => k = w.heap.size) size (some ⟨w.heap.size, 0, none⟩) n cs := by
 refine ⟨hl, fun _ => ⟨_, rfl, rfl, by simp, fun j u hu => ?_⟩⟩
 rw [Addr.add_lit, (Blk.new w t cs.toArray).cell]
 simpa using hu
theorem fileCells_append (a c : List (Int × Str × Str)) : fileCells (a ++ c) = fileCells a ++ fileCells c := by simp [fileCells]
theorem filter_take_step {α : Type} (p : α → Bool) (l : List α) (k : Nat) (hk : k < l.length) : (l.take (k + 1)).filter p = (l.take k).filter p ++ if p l[k] then [l[k]] else [] := by
 rw [List.take_succ_eq_append_getElem hk, List.filter_append]
 congr 1
 by_cases h : p l[k] = true
 · simp [h]
 · simp [h]
/-- the files but for f -/
def rless (f : Int) (l : List (Int × Str × Str)) : List (Int × Str × Str) := l.filter fun y => y.1 != f
theorem rlook_app (f : Int) : ∀ (a c : List (Int × Str × Str)), rlook f (a ++ c) = if f ∈ a.map (·.1) then rlook f a else rlook f c
 | [], c => by simp
 | y :: a, c => by
  simp only [List.cons_append, rlook, List.map_cons, List.mem_cons]
  by_cases h : y.1 = f
  · simp [h]
  · rw [if_neg h, rlook_app f a c]
    have h2 : ¬ f = y.1 := fun e => h e.symm
    simp only [h2, false_or, if_neg h]
theorem rlook_less (f g : Int) (h : g ≠ f) : ∀ l : List (Int × Str × Str), rlook g (rless f l) = rlook g l
 | [] => rfl
 | y :: l => by
  unfold rless
  rw [List.filter_cons]
  by_cases hy : y.1 = f
  · have : (y.1 != f) = false := by simp [hy]
    rw [this]
    simp only [Bool.false_eq_true, if_false, rlook]
    rw [if_neg (by rw [hy]; exact Ne.symm h)]
    exact rlook_less f g h l
  · have : (y.1 != f) = true := by simp [hy]
    rw [this]
    simp only [if_true, rlook]
    split
    · rfl
    · exact rlook_less f g h l
theorem mem_rless {f : Int} {l : List (Int × Str × Str)} {y : Int × Str × Str} : y ∈ rless f l ↔ y ∈ l ∧ y.1 ≠ f := by
 simp [rless, List.mem_filter]
theorem rlook_miss {f : Int} : ∀ {l : List (Int × Str × Str)}, f ∉ l.map (·.1) → rlook f l = ([], [])
 | [], _ => rfl
 | y :: l, h => by
  simp only [List.map_cons, List.mem_cons, not_or] at h
  unfold rlook
  rw [if_neg (Ne.symm h.1)]
  exact rlook_miss h.2
theorem rlook_set (f g : Int) (x : Str × Str) (l : List (Int × Str × Str)) : rlook g (rless f l ++ [(f, x)]) = if g = f then x else rlook g l := by
 rw [rlook_app]
 by_cases h : g = f
 · subst h
   have : g ∉ (rless g l).map (·.1) := by
    intro hm
    obtain ⟨y, hy, e⟩ := List.mem_map.1 hm
    exact (mem_rless.1 hy).2 e
   rw [if_neg this]
   simp [rlook]
 · rw [if_neg h]
   split
   · exact rlook_less f g h l
   · rename_i hm
     have h2 : ¬ f = g := fun e => h e.symm
     simp only [rlook, if_neg h2]
     rw [← rlook_less f g h l, rlook_miss hm]
theorem rless_nodup {f : Int} {x : Str × Str} {l : List (Int × Str × Str)} (h : (l.map (·.1)).Nodup) : ((rless f l ++ [(f, x)]).map (·.1)).Nodup := by
 rw [List.map_append]
 refine List.nodup_append.2 ⟨?_, by simp, ?_⟩
 · exact h.sublist (List.Sublist.map _ List.filter_sublist)
 · intro a ha b hb
   simp at hb
   subst hb
   obtain ⟨y, hy, rfl⟩ := List.mem_map.1 ha
   exact (mem_rless.1 hy).2
section
variable {w : World} {b : Nat} {D : Dsk} {F : Foot}
theorem rset_fin {x : RWit} {w5 : World} (h : IsRefW w b D x) (hb : Below w.heap.size w w5) {f : Int} (h0 : 0 ≤ f) (h1 : f < 16) {y : Str × Str} (hy : y.1.length ≤ 16777216 ∧ y.2.length ≤ 16777216) {A : Option Addr} {c : Nat}
 (hown : w5.ownsRow w.heap.size 92 3 (.slice A (rless f x.fl ++ [(f, y)]).length c) (rless f x.fl ++ [(f, y)]).length (fileCells (rless f x.fl ++ [(f, y)]))) :
 RefTo w b (x.foot b) { D with file := Dsk.setFile D.file f y } (w5.setCell ⟨b, 0, none⟩ (.slice A (rless f x.fl ++ [(f, y)]).length c)) := by
 have h5 := h.only (Only.of_below (F := NoF) hb (Nat.le_refl _)) fun _ _ h => h
 obtain ⟨a1, a2, a3⟩ := h5.apart
 have ho : Only (oneF b) w5 (w5.setCell ⟨b, 0, none⟩ (.slice A (rless f x.fl ++ [(f, y)]).length c)) := (Only.refl (oneF b) w5).setCell (p := ⟨b, 0, none⟩) (.inl rfl) _
 have hbl := h.blk.lt
 have hI : IsRefW (w5.setCell ⟨b, 0, none⟩ (.slice A (rless f x.fl ++ [(f, y)]).length c)) b { D with file := Dsk.setFile D.file f y } { x with fv := .slice A (rless f x.fl ++ [(f, y)]).length c, fl := rless f x.fl ++ [(f, y)] } := {
  blk := h5.blk.set_ 0 _
  fo := own_only (own_base hown (Nat.zero_le _)) ho fun k hk e => by
   have := (hown.lt k hk).1
   have e' : k = b := e
   omega
  own := own_only h5.own ho fun k hk => (a2 k hk).1
  kpo := own_only h5.kpo ho fun k hk => (a3 k hk).1
  abs := fun g => by
   rw [rlook_set]
   simp only [Dsk.setFile]
   split
   · rfl
   · exact h.abs g
  keys := rless_nodup h.keys
  fkey := fun z hz => by
   rcases List.mem_append.1 hz with hz | hz
   · exact h.fkey z (mem_rless.1 hz).1
   · simp at hz
     subst hz
     exact ⟨h0, h1⟩
  ok := h.ok.setFile h0 h1 hy }
 refine hI.to (((Only.of_below (F := (x.foot b).m) hb (Nat.le_refl _))).setCell (p := ⟨b, 0, none⟩) (.inl (.inl rfl)) _) rfl fun k hk => ?_
 rcases hk with hk | hk | hk
 · exact .inl (.inl hk)
 · exact .inr (hown.lt k hk).1
 · exact .inl (.inr (.inr hk))
theorem rset_c (h : IsRef w b D F) (f : Int) (nw la : Str) (h0 : 0 ≤ f) (h1 : f < 16) (hy : nw.length ≤ 16777216 ∧ la.length ≤ 16777216) :
 Calls Tryz.prog 66 #[.pointer (some ⟨b, 0, none⟩), .agg #[.int .i64 f, strV nw, strV la]] w fun e w' => e = .returned (.tuple #[]) ∧ RefTo w b F { D with file := Dsk.setFile D.file f (nw, la) } w' := by
 obtain ⟨x, h, hF⟩ := h
 obtain ⟨A, c, e, hc1, hc2, hr⟩ := Reads.of_own h.fo
 have hl := h.len
 obtain ⟨d0, _⟩ := h.cells
 rw [e] at d0
 have hbl := h.blk.lt
 have hne : ¬ b = w.heap.size := by omega
 have z0 := h.blk.frozen 0
 have HR := Lib.hid hr
 have HF := Lib.hid hF
 have H := Lib.hid h
 obtain ⟨ti, hti, hz0, hz1, hz2⟩ := info_parts info_RFile
 clear hF h hr
 go_enter Tryz.func66, Tryz.ntmps66
 go_wp2_with fail
 have H1 := Lib.hid (And.intro ((Below.refl w.heap.size w).alloc (Nat.le_refl _) (.cells #[.int .i64 f, strV nw, strV la] 92)) (Blk.new w 92 #[.int .i64 f, strV nw, strV la]))
 go_loopw [4, 5] (fun v i wr => ∃ k : Nat, k ≤ x.fl.length ∧ i = .int .i64 (k : Int) ∧ wr.ownsRow (w.heap.size + 1) 92 3 v (rless f (x.fl.take k)).length (fileCells (rless f (x.fl.take k))) ∧ Below w.heap.size w wr ∧ Blk wr w.heap.size 92 #[.int .i64 f, strV nw, strV la]) (fun _ i _ => x.fl.length - (intOf i).toNat)
 case atStart => exact ⟨0, by omega, by go_num, by simpa [rless, fileCells] using World.ownsRow_nil _ _ _ _, H1.out.1, H1.out.2⟩
 case round =>
  obtain ⟨k, hk, rfl, hown, hB, hK⟩ := hrel
  have e0 := (hB.cell (p := ⟨b, 0, none⟩) hbl).trans d0
  have e9 := (hB.frozen (p := ⟨b, 0, none⟩) hbl).trans z0
  have k0 := hK.cell 0
  have k1 := hK.cell 1
  have k2 := hK.cell 2
  have hwk := hK.lt
  have hwb := hB.size
  have HB := Lib.hid hB
  have HK := Lib.hid hK
  have HOWN := Lib.hid hown
  obtain ⟨Av, cv, rfl, hv1, hv2, _⟩ := Reads.of_own hown
  have hrl : (rless f (x.fl.take k)).length ≤ 16 := by
   have := List.length_filter_le (fun y : Int × Str × Str => y.1 != f) (x.fl.take k)
   have h2 := List.length_take_le k x.fl
   unfold rless
   omega
  clear hB hK hown
  by_cases hlt : k < x.fl.length
  · obtain ⟨g, off, rfl, _, hg, hcc⟩ := HR.out.form (by omega) (by decide)
    obtain ⟨c0, c1, c2⟩ := fileCells_get x.fl k hlt
    have q0 : _ = _ := (HB.out.cell (p := ⟨g, off + k * 3, none⟩) hg).trans (hcc _ _ c0)
    have q1 : _ = _ := (HB.out.cell (p := ⟨g, off + k * 3 + 1, none⟩) hg).trans (hcc _ _ c1)
    have q2 : _ = _ := (HB.out.cell (p := ⟨g, off + k * 3 + 2, none⟩) hg).trans (hcc _ _ c2)
    clear c0 c1 c2 hcc
    have hst := filter_take_step (fun y : Int × Str × Str => y.1 != f) x.fl k hlt
    by_cases hf : x.fl[k].1 = f
    · have hb : (x.fl[k].1 != f) = false := by simp [hf]
      simp only [hb, Bool.false_eq_true, if_false, List.append_nil] at hst
      have HST := Lib.hid (show rless f (x.fl.take (k + 1)) = rless f (x.fl.take k) from hst)
      clear hst hf
      go_wp2_with fail
      go_quiet (fail)
      go_wp2_with fail
      go_roundw
      case rel => exact ⟨k + 1, by omega, by go_num, by rw [HST.out]; exact own_only HOWN.out ((Only.refl NoF _).drewN _) fun _ _ h => h, belowN HB.out _, HK.out.drewN _⟩
      case measure => simp [intOf]; omega
    · have hb : (x.fl[k].1 != f) = true := by simp [hf]
      simp only [hb, if_true] at hst
      have HST := Lib.hid (show rless f (x.fl.take (k + 1)) = rless f (x.fl.take k) ++ [x.fl[k]] from hst)
      clear hst hf
      go_wp2_with fail
      go_quiet (fail)
      go_wp2_with (at_builtin; (refine wpList_append_any _ rfl (.tmp 26) (.tmp 34) _ rfl (w.heap.size + 1) 92 ti _ 3 40 Tryz.underlying59 hti hz0 hz1 hz2 rfl (by decide) (.slice Av (rless f (x.fl.take k)).length cv) _ _ rfl (own_only HOWN.out (((Only.refl NoF wr).drewN _).alloc (.cells #[.int .i64 x.fl[k].1, strV x.fl[k].2.1, strV x.fl[k].2.2] 92)) fun _ _ h => h) _ _ 1 1 _ rfl (reads_made (wr.drewN _) 92 3 1 [.int .i64 x.fl[k].1, strV x.fl[k].2.1, strV x.fl[k].2.2] rfl) (by intro u hu; simp at hu; rcases hu with rfl | rfl | rfl <;> rfl) (by unfold maxLen; omega) (by omega) (by simp; omega) ?_); intro v' w1 hown1 hgrow hat)
      have hOW : ∀ j, (Value.slice Av (rless f (x.fl.take k)).length cv).ownBlock = some j → w.heap.size + 1 ≤ j := fun j hj => (HOWN.out.lt j hj).1
      have G1 := Lib.hid (show w1.ownsRow (w.heap.size + 1) 92 3 v' (rless f (x.fl.take (k + 1))).length (fileCells (rless f (x.fl.take (k + 1)))) by rw [HST.out, fileCells_append, List.length_append]; exact hown1)
      have G2 := Lib.hid (belowG ((belowN HB.out nq).alloc hwb _) hgrow (by simp; omega) fun j hj => by have := hOW j hj; omega)
      have G3 := Lib.hid (Blk.grown (((blkN HK.out nq).alloc _)) hgrow fun e => by have := hOW _ e.symm; omega)
      clear hown1 hgrow hat hOW
      go_roundw
      case rel => exact ⟨k + 1, by omega, by go_num, G1.out, G2.out, G3.out⟩
      case measure => simp [intOf]; omega
  · obtain rfl : k = x.fl.length := by omega
    have HX := Lib.hid (show wr.ownsRow (w.heap.size + 1) 92 3 (.slice Av (rless f x.fl).length cv) (rless f x.fl).length (fileCells (rless f x.fl)) by have := HOWN.out; rw [List.take_length] at this; exact this)
    rw [List.take_length] at hrl hv1
    have eT : rless f (x.fl.take x.fl.length) = rless f x.fl := by rw [List.take_length]
    rw [eT]
    clear HOWN eT
    go_wp2_with (at_builtin; (refine wpList_append_any _ rfl (.tmp 37) (.tmp 39) _ rfl (w.heap.size + 1) 92 ti _ 3 40 Tryz.underlying59 hti hz0 hz1 hz2 rfl (by decide) (.slice Av (rless f x.fl).length cv) _ _ rfl (own_only HX.out ((Only.refl NoF wr).alloc (.cells #[.int .i64 f, strV nw, strV la] 92)) fun _ _ h => h) _ _ 1 1 _ rfl (reads_made wr 92 3 1 [.int .i64 f, strV nw, strV la] rfl) (by intro u hu; simp at hu; rcases hu with rfl | rfl | rfl <;> rfl) (by unfold maxLen; omega) (by omega) (by simp; omega) ?_); intro v' w1 hown1 hgrow hat; have hOW : ∀ j, (Value.slice Av (rless f x.fl).length cv).ownBlock = some j → w.heap.size + 1 ≤ j := (fun j hj => (HX.out.lt j hj).1); have G1 := Lib.hid (show w1.ownsRow (w.heap.size + 1) 92 3 v' (rless f x.fl ++ [(f, nw, la)]).length (fileCells (rless f x.fl ++ [(f, nw, la)])) by rw [fileCells_append, List.length_append]; exact hown1); have G2 := Lib.hid (belowG (HB.out.alloc hwb _) hgrow (by simp; omega) (fun j hj => by have := hOW j hj; omega)); clear hown1 hgrow hat hOW; obtain ⟨A1, cc1, rfl, _, _, _⟩ := Reads.of_own G1.out; have e1 := (G2.out.cell (p := ⟨b, 0, none⟩) hbl).trans d0; have e2 := (G2.out.frozen (p := ⟨b, 0, none⟩) hbl).trans z0)
    go_end0
    refine ⟨rfl, ?_⟩
    rw [HF.out]
    have hfin := rset_fin H.out G2.out h0 h1 hy (own_base G1.out (by omega))
    rw [show (rless f x.fl ++ [(f, nw, la)]).length = (rless f x.fl).length + 1 by simp] at hfin
    exact hfin
end
end
section
open Go.RowKit
section
variable {w : World} {b : Nat} {D : Dsk} {F : Foot}
theorem secCells_append' (q q' : List (Int × Int)) : secCells (q ++ q') = secCells q ++ secCells q' := by simp [secCells]
/-- the queue is another row -/
theorem requeue_fin {x : RWit} {w4 : World} {D' : Dsk} {v : Value} (h : IsRefW w b D x) (ho : Only (fun k => x.q.ownBlock = some k) w w4) (hv : ∀ k, v.ownBlock = some k → x.q.ownBlock = some k ∨ w.heap.size ≤ k)
 (hown : w4.ownsRow 0 90 2 v D'.queue.length (secCells D'.queue)) (e1 : D'.file = D.file) (e2 : D'.lost = D.lost) (e3 : D'.down = D.down) (e4 : D'.armed = D.armed) (e5 : D'.keep = D.keep) (ok : D'.Ok) :
 RefTo w b (x.foot b) D' (w4.setCell ⟨b, 1, none⟩ v) := by
 obtain ⟨a1, a2, a3⟩ := h.apart
 have hb4 := h.blk.only ho fun e => (a2 b e).1 rfl
 have hf4 := own_only h.fo ho fun k hk hq => (a1 k hk).2.1 hq
 have hk4 := own_only h.kpo ho fun k hk hq => (a3 k hk).2.2 hq
 have o5 : Only (oneF b) w4 (w4.setCell ⟨b, 1, none⟩ v) := (Only.refl (oneF b) w4).setCell (p := ⟨b, 1, none⟩) (.inl rfl) _
 have hvb : ∀ k, v.ownBlock = some k → k ≠ b := fun k hk => by
  obtain ⟨cur, hc⟩ := own_type hown k hk
  exact hc.ne_ hb4 (by decide)
 have hI : IsRefW (w4.setCell ⟨b, 1, none⟩ v) b D' { x with q := v } := {
  blk := by rw [e2, e3, e4]; exact hb4.set_ 1 v
  fo := own_only hf4 o5 fun k hk => (a1 k hk).1
  own := own_only hown o5 fun k hk => hvb k hk
  kpo := by rw [e5]; exact own_only hk4 o5 fun k hk => (a3 k hk).1
  abs := by rw [e1]; exact h.abs
  keys := h.keys
  fkey := h.fkey
  ok := ok }
 refine hI.to (((ho.mono fun k hk => .inr (.inr hk))).setCell (p := ⟨b, 1, none⟩) (.inl (.inl rfl)) _) rfl fun k hk => ?_
 rcases hk with hk | hk | hk
 · exact .inl (.inl hk)
 · exact .inl (.inr (.inl hk))
 · rcases hv k hk with h1 | h1
   · exact .inl (.inr (.inr h1))
   · exact .inr h1
theorem RefTo.ok {w w1 : World} {D' : Dsk} (h : RefTo w b F D' w1) : D'.Ok := by
 obtain ⟨F', ⟨x, i, _⟩, _⟩ := h
 exact i.ok
theorem RefTo.more {w w1 w2 : World} {D' : Dsk} (h : RefTo w b F D' w1) (ho : Only NoF w1 w2) : RefTo w b F D' w2 := by
 obtain ⟨F', i, o, f, r⟩ := h
 exact ⟨F', i.only ho fun _ _ h => h, o.trans ho fun _ h => h.elim, f, r⟩
theorem radd_some (h : IsRef w b D F) (f : Int) (a : Nat) (s : Str) (h0 : 0 ≤ f) (h1 : f < 16) (h2 : a + s.length ≤ 16777216) (hs : s ≠ []) :
 Calls Tryz.prog 108 #[.pointer (some ⟨b, 0, none⟩), .int .i64 f, .int .i64 (a : Int), strV s] w fun e w' => e = .returned (.tuple #[]) ∧ RefTo w b F (D.add f a s) w' := by
 have hget := rget_c h f
 have hok : D.Ok := by obtain ⟨x, i, _⟩ := h; exact i.ok
 have hlf := hok.lens f
 have hput := fun W => rPut_c W (D.file f).1 s (a : Int) (by omega) (by omega) hlf.1 (by omega)
 have hpl := length_put_le (D.file f).1 a s 16777216 hlf.1 (fun _ => h2)
 have hbl : b < w.heap.size := by obtain ⟨x, i, _⟩ := h; exact i.blk.lt
 have H := Lib.hid h
 have HG := Lib.hid hget
 have HP := Lib.hid hput
 have hse : s.isEmpty = false := by simpa using hs
 have hsp : 0 < s.length := List.length_pos_iff.2 hs
 have Hs := Lib.hid hs
 clear h hget hput hs
 go_enter Tryz.func108, Tryz.ntmps108
 go_wp2_with (go_at_call 64; refine HG.out.mono ?_; rintro e w1 ⟨rfl, hB1⟩; have B1 := Lib.hid hB1; clear hB1)
 refine (HP.out _).mono ?_
 rintro e w2 ⟨rfl, ho2⟩
 rw [Int.toNat_natCast]
 have hK := (Blk.new w1 92 #[.int .i64 f, strV (D.file f).1, strV (D.file f).2]).only ho2 id
 have k0 := hK.cell 0
 have k1 := hK.cell 1
 have k2 := hK.cell 2
 have y0 := hK.frozen 0
 have y1 := hK.frozen 1
 have y2 := hK.frozen 2
 have hs1 := B1.out.size
 have O2 := Lib.hid (((Only.of_below (F := NoF) B1.out (Nat.le_refl _)).alloc (.cells #[.int .i64 f, strV (D.file f).1, strV (D.file f).2] 92)).trans' ho2)
 have HST := Lib.hid (fun u => rset_c (H.out.only (O2.out.setCell (p := ⟨w1.heap.size, 1, none⟩) (.inr hs1) u) fun _ _ h => h) f (put (D.file f).1 a s) (D.file f).2 h0 h1 ⟨hpl, hlf.2⟩)
 have OST := Lib.hid (fun u => O2.out.setCell (p := ⟨w1.heap.size, 1, none⟩) (.inr hs1) u)
 clear hK ho2
 go_wp2_with fail
 refine (HST.out _).mono ?_
 rintro e w3 ⟨rfl, h3⟩
 have R3 := Lib.hid (show RefTo w b F (D.wrote f a s 0) w3 by rw [Dsk.wrote_zero]; exact RefTo.trans ((OST.out _).mono fun _ h => h.elim) (fun _ hk => .inl hk) (fun _ hk => .inl hk) h3)
 have hcnt := Dsk.length_secs a s.length
 clear h3 k0 k1 k2 y0 y1 y2
 go_wp2_with fail
 go_loopw [9] (fun n wr => ∃ i : Nat, i ≤ (Dsk.secs a s.length).length ∧ n = .int .i64 ((a / 64 + i : Nat) : Int) ∧ RefTo w b F (D.wrote f a s i) wr) (fun n _ => a / 64 + (Dsk.secs a s.length).length - (intOf n).toNat)
 case atStart => exact ⟨0, by omega, by go_num, R3.out⟩
 case round =>
  obtain ⟨i, hi, rfl, hD⟩ := hrel
  have HD := Lib.hid hD
  clear hD
  obtain ⟨Fi, ⟨xi, hxi, hFi⟩, hOi, hFi2, hFi3⟩ := HD.out
  have Hxi := Lib.hid hxi
  have HFI := Lib.hid (And.intro hFi (And.intro hOi (And.intro hFi2 hFi3)))
  by_cases hlt : i < (Dsk.secs a s.length).length
  · have hpe := rpending_c ⟨xi, hxi, rfl⟩ f ((a / 64 + i : Nat) : Int)
    have hN : ((a / 64 + i : Nat) : Int) = (a : Int) / 64 + (i : Int) := by omega
    rw [hN] at hpe
    have HN := Lib.hid hN
    by_cases hq : (f, (a : Int) / 64 + (i : Int)) ∈ (D.wrote f a s i).queue
    · rw [decide_eq_true hq] at hpe
      have HPE := Lib.hid hpe
      have Hq := Lib.hid hq
      clear hpe hN hxi hFi hOi hFi2 hFi3 hq
      go_wp2_with fail
      refine HPE.out.mono ?_
      rintro e w' ⟨rfl, rfl⟩
      go_wp2_with fail
      go_roundw
      case rel =>
       refine ⟨i + 1, by omega, by go_num, ?_⟩
       rw [Dsk.wrote_succ D f a s i hlt, HN.out, Dsk.push, if_pos Hq.out]
       exact HD.out
      case measure => simp [intOf]; omega
    · rw [decide_eq_false hq] at hpe
      have HPE := Lib.hid hpe
      have Hq := Lib.hid hq
      obtain ⟨ti, hti, hz0, hz1, hz2⟩ := info_parts info_RSec
      obtain ⟨_, d1, _⟩ := hxi.cells
      have z1 := hxi.blk.frozen 1
      have hql := hxi.ok.qlen
      obtain ⟨Aq, cq, eq_, _, _, _⟩ := Reads.of_own hxi.own
      rw [eq_] at d1
      have EQ := Lib.hid eq_
      have hbw : b < wr.heap.size := hxi.blk.lt
      have hne : ¬ wr.heap.size = b := by omega
      clear hpe hN hxi hFi hOi hFi2 hFi3 hq eq_
      go_wp2_with fail
      refine HPE.out.mono ?_
      rintro e w' ⟨rfl, rfl⟩
      go_wp2_with (at_builtin; (refine wpList_append_any _ rfl (.tmp 45) (.tmp 49) _ rfl 0 90 ti _ 2 16 Tryz.underlying60 hti hz0 hz1 hz2 rfl (by decide) (.slice Aq (D.wrote f a s i).queue.length cq) _ _ rfl (own_only (by have := Hxi.out.own; rw [EQ.out] at this; exact this) ((Only.refl NoF wr).alloc (.cells #[.int .i64 f, .int .i64 ((a : Int) / 64 + (i : Int))] 90)) fun _ _ h => h) _ _ 1 1 _ rfl (reads_made wr 90 2 1 [.int .i64 f, .int .i64 ((a : Int) / 64 + (i : Int))] rfl) (by intro u hu; simp at hu; rcases hu with rfl | rfl <;> rfl) (by unfold maxLen; omega) (by omega) (Nat.zero_le _) ?_); intro v' w4 hown4 hgrow hat; obtain ⟨A1, cc1, rfl, _, _, _⟩ := Reads.of_own hown4; have o4 : Only (fun k => xi.q.ownBlock = some k) wr w4 := ((Only.refl _ wr).alloc _).grown hgrow (fun k hk => .inl (by rw [EQ.out]; exact hk)); have B4 := Lib.hid (Hxi.out.blk.only o4 (fun e => (Hxi.out.apart.2.1 b e).1 rfl)); have e1 := B4.out.cell 1; have e2 := B4.out.frozen 1; have O4 := Lib.hid o4; have G1 := Lib.hid (And.intro hown4 hat); clear hown4 hgrow hat o4)
      have hp : (D.wrote f a s (i + 1)) = { D.wrote f a s i with queue := (D.wrote f a s i).queue ++ [(f, (a : Int) / 64 + (i : Int))] } := by
       rw [Dsk.wrote_succ D f a s i hlt, HN.out, Dsk.push, if_neg Hq.out]
      have hok' := hok.wrote h0 h1 h2 (i + 1) (by omega)
      have hfin := requeue_fin (D' := D.wrote f a s (i + 1)) Hxi.out O4.out (fun j hj => by
       rcases G1.out.2 with e | e
       · rw [EQ.out, ← e]; exact .inl hj
       · refine .inr ?_
         have := hj.symm.trans e
         simp at this
         omega) (by rw [hp]; simp only [List.length_append, List.length_cons, List.length_nil, secCells_append']; exact G1.out.1) (by rw [hp]) (by rw [hp]) (by rw [hp]) (by rw [hp]) (by rw [hp]) hok'
      have HFIN := Lib.hid (RefTo.trans HFI.out.2.1 HFI.out.2.2.1 HFI.out.2.2.2 (by rw [HFI.out.1]; exact hfin))
      clear hfin hok' hp e1 e2
      go_roundw
      case rel => exact ⟨i + 1, by omega, by go_num, HFIN.out⟩
      case measure => simp [intOf]; omega
  · go_wp2_with fail
    go_end0
    refine ⟨rfl, ?_⟩
    rw [← Dsk.wrote_all D f a s Hs.out i (by omega)]
    exact HD.out
theorem radd_c (h : IsRef w b D F) (f : Int) (a : Nat) (s : Str) (h0 : 0 ≤ f) (h1 : f < 16) (h2 : a + s.length ≤ 16777216) :
 Calls Tryz.prog 108 #[.pointer (some ⟨b, 0, none⟩), .int .i64 f, .int .i64 (a : Int), strV s] w fun e w' => e = .returned (.tuple #[]) ∧ RefTo w b F (D.add f a s) w' := by
 by_cases hs : s = []
 · have Hp := Lib.hid (show D.add f a s = D by simp [Dsk.add, hs])
   subst hs
   go_enter Tryz.func108, Tryz.ntmps108
   go_wp2
   refine bodyPost_ret (results_none rfl _ _ _) rfl ?_
   rw [Hp.out]
   exact ⟨rfl, .same h⟩
 · exact radd_some h f a s h0 h1 h2 hs
theorem rfits_c (at_ : Int) (s : Str) (ha : I64 at_) (hs : s.length ≤ 1000000) : Calls Tryz.prog 107 #[.int .i64 at_, strV s] w fun e w' => e = .returned (.bool (decide (Dsk.fits at_ s))) ∧ w = w' := by
 unfold I64 at ha
 have h3 : (0 ≤ at_ ∧ at_ ≤ 16777216 ∧ at_ + s.length ≤ 16777216) ∨ at_ < 0 ∨ (0 ≤ at_ ∧ 16777216 < at_) ∨ (0 ≤ at_ ∧ at_ ≤ 16777216 ∧ 16777216 < at_ + s.length) := by omega
 rcases h3 with ⟨a, c, d⟩ | a | ⟨a, c⟩ | ⟨a, c, d⟩
 · have Hp := Lib.hid (show decide (Dsk.fits at_ s) = true from decide_eq_true ⟨a, c, d⟩)
   go_enter Tryz.func107, Tryz.ntmps107
   go_wp2
   go_ret
   rw [Hp.out]
   exact ⟨ret_bool (by first | (simp; done) | (simp; omega)), rfl⟩
 all_goals
  have Hp := Lib.hid (show decide (Dsk.fits at_ s) = false from decide_eq_false (by unfold Dsk.fits; omega))
  go_enter Tryz.func107, Tryz.ntmps107
  go_wp2
  go_ret
  rw [Hp.out]
  exact ⟨ret_bool (by first | (simp; done) | (simp; omega)), rfl⟩
end
end
section
open Go.RowKit
section
variable {w : World} {b : Nat} {D : Dsk} {F : Foot}
def qless (f : Int) (q : List (Int × Int)) : List (Int × Int) := q.filter fun p => !(p.1 == f)
theorem rsettle_c (h : IsRef w b D F) (f : Int) (s : Str) (h0 : 0 ≤ f) (h1 : f < 16) (hs : s.length ≤ 16777216) :
 Calls Tryz.prog 91 #[.pointer (some ⟨b, 0, none⟩), .int .i64 f, strV s] w fun e w' => e = .returned (.tuple #[]) ∧ RefTo w b F (D.settle f s) w' := by
 have hst := rset_c h f s s h0 h1 ⟨hs, hs⟩
 have HST := Lib.hid hst
 clear hst h
 go_enter Tryz.func91, Tryz.ntmps91
 go_wp2_with fail
 refine HST.out.mono ?_
 rintro e w1 ⟨rfl, F1, ⟨x, hx, hF1⟩, o1, f1, r1⟩
 obtain ⟨A, c, e, hc1, hc2, hr⟩ := Reads.of_own hx.own
 have hql := hx.ok.qlen
 obtain ⟨_, d1, _⟩ := hx.cells
 rw [e] at d1
 have hbl := hx.blk.lt
 have z1 := hx.blk.frozen 1
 have HR := Lib.hid hr
 have HX := Lib.hid hx
 have HO := Lib.hid (And.intro hF1 (And.intro o1 (And.intro f1 r1)))
 obtain ⟨ti, hti, hz0, hz1, hz2⟩ := info_parts info_RSec
 clear hr hx hF1 o1 f1 r1
 go_wp2_with fail
 go_loopw [6, 7] (fun v i wr => ∃ k : Nat, k ≤ D.queue.length ∧ i = .int .i64 (k : Int) ∧ wr.ownsRow w1.heap.size 90 2 v (qless f (D.queue.take k)).length (secCells (qless f (D.queue.take k))) ∧ Below w1.heap.size w1 wr) (fun _ i _ => D.queue.length - (intOf i).toNat)
 case atStart => exact ⟨0, by omega, by go_num, by simpa [qless, secCells] using World.ownsRow_nil _ _ _ _, Below.refl _ _⟩
 case round =>
  obtain ⟨k, hk, rfl, hown, hB⟩ := hrel
  have e0 := (hB.cell (p := ⟨b, 1, none⟩) hbl).trans d1
  have e9 := (hB.frozen (p := ⟨b, 1, none⟩) hbl).trans z1
  have hwb := hB.size
  have HB := Lib.hid hB
  have HOWN := Lib.hid hown
  obtain ⟨Av, cv, rfl, hv1, hv2, _⟩ := Reads.of_own hown
  have hrl : (qless f (D.queue.take k)).length ≤ 4194320 := by
   have := List.length_filter_le (fun p : Int × Int => !(p.1 == f)) (D.queue.take k)
   have h2 := List.length_take_le' k D.queue
   unfold qless
   omega
  clear hB hown
  by_cases hlt : k < D.queue.length
  · obtain ⟨g, off, rfl, _, hg, hcc⟩ := HR.out.form (by omega) (by decide)
    obtain ⟨c0, c1⟩ := secCells_get D.queue k hlt
    have q0 : _ = _ := (HB.out.cell (p := ⟨g, off + k * 2, none⟩) hg).trans (hcc _ _ c0)
    have q1 : _ = _ := (HB.out.cell (p := ⟨g, off + k * 2 + 1, none⟩) hg).trans (hcc _ _ c1)
    clear c0 c1 hcc
    have hst := filter_take_step (fun p : Int × Int => !(p.1 == f)) D.queue k hlt
    by_cases hf : D.queue[k].1 = f
    · have hb : (D.queue[k].1 != f) = false := by simp [hf]
      have hb2 : (!(D.queue[k].1 == f)) = false := by simp [hf]
      simp only [hb2, Bool.false_eq_true, if_false, List.append_nil] at hst
      have HST2 := Lib.hid (show qless f (D.queue.take (k + 1)) = qless f (D.queue.take k) from hst)
      clear hst hf hb2
      go_wp2_with fail
      go_roundw
      case rel => exact ⟨k + 1, by omega, by go_num, by rw [HST2.out]; exact HOWN.out, HB.out⟩
      case measure => simp [intOf]; omega
    · have hb : (D.queue[k].1 != f) = true := by simp [hf]
      have hb2 : (!(D.queue[k].1 == f)) = true := by simp [hf]
      simp only [hb2, if_true] at hst
      have HST2 := Lib.hid (show qless f (D.queue.take (k + 1)) = qless f (D.queue.take k) ++ [D.queue[k]] from hst)
      clear hst hf hb2
      go_wp2_with (at_builtin; (refine wpList_append_any _ rfl (.tmp 33) (.tmp 41) _ rfl w1.heap.size 90 ti _ 2 16 Tryz.underlying60 hti hz0 hz1 hz2 rfl (by decide) (.slice Av (qless f (D.queue.take k)).length cv) _ _ rfl (own_only HOWN.out ((Only.refl NoF wr).alloc (.cells #[.int .i64 D.queue[k].1, .int .i64 D.queue[k].2] 90)) fun _ _ h => h) _ _ 1 1 _ rfl (reads_made wr 90 2 1 [.int .i64 D.queue[k].1, .int .i64 D.queue[k].2] rfl) (by intro u hu; simp at hu; rcases hu with rfl | rfl <;> rfl) (by unfold maxLen; omega) (by omega) (by simp; omega) ?_); intro v' w4 hown1 hgrow hat)
      have hOW : ∀ j, (Value.slice Av (qless f (D.queue.take k)).length cv).ownBlock = some j → w1.heap.size ≤ j := fun j hj => (HOWN.out.lt j hj).1
      have G1 := Lib.hid (show w4.ownsRow w1.heap.size 90 2 v' (qless f (D.queue.take (k + 1))).length (secCells (qless f (D.queue.take (k + 1)))) by rw [HST2.out, secCells_append', List.length_append]; exact hown1)
      have G2 := Lib.hid (belowG (HB.out.alloc hwb _) hgrow (by simp; omega) fun j hj => hOW j hj)
      clear hown1 hgrow hat hOW
      go_roundw
      case rel => exact ⟨k + 1, by omega, by go_num, G1.out, G2.out⟩
      case measure => simp [intOf]; omega
  · obtain rfl : k = D.queue.length := by omega
    have HX2 := Lib.hid (show wr.ownsRow w1.heap.size 90 2 (.slice Av (qless f D.queue).length cv) (qless f D.queue).length (secCells (qless f D.queue)) by have := HOWN.out; rw [List.take_length] at this; exact this)
    have eT : qless f (D.queue.take D.queue.length) = qless f D.queue := by rw [List.take_length]
    rw [eT]
    clear HOWN eT
    go_wp2_with fail
    go_end0
    refine ⟨rfl, ?_⟩
    have hok : (D.settle f s).Ok := by
     have := HX.out.ok
     exact { lens := this.lens, out := this.out, q := fun p hp => this.q p (List.mem_filter.1 hp).1, nodup := this.nodup.filter _, lost := this.lost, armed := this.armed, keep := this.keep }
    have hfin := requeue_fin (D' := D.settle f s) (v := .slice Av (qless f D.queue).length cv) HX.out (Only.of_below HB.out (Nat.le_refl _)) (fun j hj => .inr (HX2.out.lt j hj).1) (own_base HX2.out (Nat.zero_le _)) rfl rfl rfl rfl rfl hok
    exact RefTo.trans HO.out.2.1 HO.out.2.2.1 HO.out.2.2.2 (by rw [HO.out.1]; exact hfin)
theorem rRead_c (h : IsRef w b D F) (f at_ size : Int) (ha : I64 at_) (hs : I64 size) : Calls Tryz.prog 57 #[.pointer (some ⟨b, 0, none⟩), .int .i64 f, .int .i64 at_, .int .i64 size] w
 fun e w' => e = .returned (.tuple #[strV (D.read f at_ size).1, .int .i64 (D.read f at_ size).2]) ∧ Only NoF w w' := by
 unfold I64 at ha hs
 have hm := rmay_c h f
 have hg := rget_c h f
 have hok := (by obtain ⟨x, i, _⟩ := h; exact i.ok.lens f : (D.file f).1.length ≤ 16777216 ∧ (D.file f).2.length ≤ 16777216).1
 by_cases h1 : D.may f = 0
 · rw [h1] at hm
   by_cases h2 : at_ < 0 ∨ size < 0
   · have Hp := Lib.hid (show D.read f at_ size = ([], 1) from by simp [Dsk.read, h1, h2])
     clear h1 h hg
     go_enter Tryz.func57, Tryz.ntmps57
     go_wp2_with (go_at_call 90; refine hm.mono ?_; rintro e w' ⟨rfl, rfl⟩)
     all_goals (go_ret2; rw [Hp.out]; exact ⟨rfl, Only.refl _ _⟩)
   · have Hp := Lib.hid (show D.read f at_ size = (Dsk.readS (D.file f).1 at_.toNat size.toNat, 0) from by simp [Dsk.read, h1, h2])
     obtain ⟨a, rfl⟩ : ∃ a : Nat, at_ = a := ⟨at_.toNat, by omega⟩
     obtain ⟨n, rfl⟩ : ∃ n : Nat, size = n := ⟨size.toNat, by omega⟩
     have HM := Lib.hid hm
     have HG := Lib.hid hg
     clear h1 h2 h hm hg
     generalize (D.file f).1 = s at HG Hp hok
     by_cases h3 : a < s.length
     · have h3' : ¬ ((s.length : Int) ≤ (a : Int)) := by omega
       by_cases h4 : (s.length : Int) - (a : Int) < (n : Int)
       · go_enter Tryz.func57, Tryz.ntmps57
         go_wp2_with fail
         refine HM.out.mono ?_
         rintro e w' ⟨rfl, rfl⟩
         go_wp2_with fail
         refine HG.out.mono ?_
         rintro e w1 ⟨rfl, hB⟩
         have B := Lib.hid hB
         clear hB
         go_wp2_with fail
         go_ret2
         rw [Hp.out]
         refine ⟨ret_str2 ?_ rfl, Only.of_below B.out (Nat.le_refl _)⟩
         simp only [Dsk.readS, Int.toNat_natCast]
         first | rfl | (rw [List.take_of_length_le (by simp; omega), List.take_of_length_le (by simp; omega)]) | (simp; omega)
       · go_enter Tryz.func57, Tryz.ntmps57
         go_wp2_with fail
         refine HM.out.mono ?_
         rintro e w' ⟨rfl, rfl⟩
         go_wp2_with fail
         refine HG.out.mono ?_
         rintro e w1 ⟨rfl, hB⟩
         have B := Lib.hid hB
         clear hB
         go_wp2_with fail
         go_ret2
         rw [Hp.out]
         refine ⟨ret_str2 ?_ rfl, Only.of_below B.out (Nat.le_refl _)⟩
         simp only [Dsk.readS, Int.toNat_natCast]
         rw [show a + n - a = n by omega]
     · have h3' : ((s.length : Int) ≤ (a : Int)) := by omega
       go_enter Tryz.func57, Tryz.ntmps57
       go_wp2_with fail
       refine HM.out.mono ?_
       rintro e w' ⟨rfl, rfl⟩
       go_wp2_with fail
       refine HG.out.mono ?_
       rintro e w1 ⟨rfl, hB⟩
       have B := Lib.hid hB
       clear hB
       go_wp2_with fail
       go_ret2
       rw [Hp.out]
       refine ⟨ret_str2 ?_ rfl, Only.of_below B.out (Nat.le_refl _)⟩
       simp [Dsk.readS, List.drop_eq_nil_of_le (show s.length ≤ a by omega)]
 · have Hp := Lib.hid (show D.read f at_ size = ([], D.may f) from by simp [Dsk.read, h1])
   have h2 : (D.may f != 0) = true := by simp [h1]
   clear h1 h hg
   go_enter Tryz.func57, Tryz.ntmps57
   go_wp2_with (go_at_call 90; refine hm.mono ?_; rintro e w' ⟨rfl, rfl⟩)
   go_ret2
   rw [Hp.out]
   exact ⟨rfl, Only.refl _ _⟩
theorem new_ref (w : World) : IsRefW (w.alloc (.cells #[.slice none 0 0, .slice none 0 0, .int .i64 0, .bool false, .int .i64 0, .slice none 0 0] 62)) w.heap.size Dsk.init { fv := .slice none 0 0, q := .slice none 0 0, kp := .slice none 0 0, fl := [] } := {
 blk := Blk.new w _ _
 fo := World.ownsRow_nil _ _ _ _
 own := World.ownsRow_nil _ _ _ _
 kpo := World.ownsRow_nil _ _ _ _
 abs := fun _ => rfl
 keys := by simp
 fkey := by simp
 ok := Dsk.init_ok }
/-- behind New: a reference of new blocks -/
def NewRef (w : World) (b : Nat) (D : Dsk) (w' : World) : Prop := ∃ F, IsRef w' b D F ∧ Only NoF w w' ∧ ∀ k, F.all k → w.heap.size ≤ k
def NewRTo (w : World) (D : Dsk) (e : Ending) (w' : World) : Prop := ∃ b, e = .returned (.pointer (some ⟨b, 0, none⟩)) ∧ NewRef w b D w'
theorem rNew_c (w : World) : Calls Tryz.prog 7 #[] w (NewRTo w Dsk.init) := by
 have H := Lib.hid (new_ref w)
 go_enter Tryz.func7, Tryz.ntmps7
 go_wp2
 go_ret
 refine ⟨_, rfl, _, ⟨_, H.out, rfl⟩, (Only.refl _ w).alloc _, fun k hk => ?_⟩
 rcases hk with (hk | hk | hk) | hk
 · omega
 · simp [Value.ownBlock] at hk
 · simp [Value.ownBlock] at hk
 · simp [RWit.foot, Value.ownBlock] at hk
theorem rearm_fin {x : RWit} {w1 : World} (h : IsRefW w b D x) {n : Int} (hn : I64 n) {keep : List Int} (hl : keep.length ≤ 1000) (ho : Only NoF (w.setCell ⟨b, 4, none⟩ (.int .i64 (max n 0))) w1) {A' : Option Addr} {c' : Nat}
 (hown : w1.ownsRow w.heap.size 3 1 (.slice A' keep.length c') keep.length (keep.map (Value.int .i64))) : RefTo w b (x.foot b) (D.arm n keep) (w1.setCell ⟨b, 5, none⟩ (.slice A' keep.length c')) := by
 obtain ⟨a1, a2, a3⟩ := h.apart
 have o1 : Only (oneF b) w w1 := ((Only.refl (oneF b) w).setCell (p := ⟨b, 4, none⟩) (.inl rfl) _).trans ho fun _ h => h.elim
 have hb1 := (h.blk.set_ 4 (.int .i64 (max n 0))).only ho id
 have hbl := h.blk.lt
 have o2 : Only (oneF b) w1 (w1.setCell ⟨b, 5, none⟩ (.slice A' keep.length c')) := (Only.refl (oneF b) w1).setCell (p := ⟨b, 5, none⟩) (.inl rfl) _
 have o3 : Only (oneF b) w (w1.setCell ⟨b, 5, none⟩ (.slice A' keep.length c')) := o1.trans' o2
 have hI : IsRefW (w1.setCell ⟨b, 5, none⟩ (.slice A' keep.length c')) b (D.arm n keep) { x with kp := .slice A' keep.length c' } := {
  blk := hb1.set_ 5 _
  fo := own_only h.fo o3 fun k hk => (a1 k hk).1
  own := own_only h.own o3 fun k hk => (a2 k hk).1
  kpo := own_only (own_base hown (Nat.zero_le _)) o2 fun k hk e => by
   have := (hown.lt k hk).1
   have e' : k = b := e
   omega
  abs := h.abs
  keys := h.keys
  fkey := h.fkey
  ok := h.ok.arm n hn keep hl }
 exact hI.to (o3.mono fun k hk => .inl hk) rfl (fun k hk => .inl hk) fun k hk => .inr (hown.lt k hk).1
theorem rArm_c (h : IsRef w b D F) (n : Int) (hn : I64 n) {S : Nat → Prop} {v : Value} {keep : List Int} (hk : Ints S w v keep) (hl : keep.length ≤ 1000) (hS : ∀ k, S k → k ≠ b) :
 Calls Tryz.prog 13 #[.pointer (some ⟨b, 0, none⟩), .int .i64 n, v] w fun e w' => e = .returned (.tuple #[]) ∧ RefTo w b F (D.arm n keep) w' := by
 obtain ⟨x, h, hF⟩ := h
 have HF := Lib.hid hF
 have H := Lib.hid h
 obtain ⟨A, cap, rfl, _, _, hr⟩ := hk.cells
 obtain ⟨_, _, _, _, d4, d5⟩ := h.cells
 have z4 := h.blk.frozen 4
 have z5 := h.blk.frozen 5
 have hbl := h.blk.lt
 obtain ⟨ti, hti, hz0, hz1, hz2⟩ := info_parts info_int
 obtain ⟨m, hm⟩ : ∃ m, m = max n 0 := ⟨_, rfl⟩
 have HM := Lib.hid hm
 have HW := Lib.hid (fun u : Value => (by
  have h0 : (w.setCell ⟨b, 4, none⟩ u).heap.size = w.heap.size := by simp [World.setCell]
  have := World.ownsRow_made (base := w.heap.size) (e := 3) (size := 1) (w.setCell ⟨b, 4, none⟩ u) #[] 0 (by omega) (Nat.zero_le _) rfl
  rw [h0] at this
  exact this : ((w.setCell ⟨b, 4, none⟩ u).alloc (.cells #[] 3)).ownsRow w.heap.size 3 1 (.slice (some ⟨w.heap.size, 0, none⟩) 0 0) 0 []))
 have HB := Lib.hid (fun u : Value => (h.blk.set_ 4 u).alloc (.cells #[] 3))
 have HR := Lib.hid (fun u : Value => hr.only (((Only.refl (oneF b) w).setCell (p := ⟨b, 4, none⟩) (.inl rfl) u).alloc (.cells #[] 3)) fun k hk e => hS k hk e)
 clear hF h hr hk hm hS
 by_cases hn0 : n < 0
 all_goals
  go_enter Tryz.func13, Tryz.ntmps13
  go_wp2_with (at_builtin; (refine wpList_append_any _ rfl (.tmp 12) (.tmp 13) _ rfl w.heap.size 3 ti _ 1 8 Tryz.underlying37 hti hz0 hz1 hz2 rfl (by decide) (.slice (some ⟨w.heap.size, 0, none⟩) 0 0) 0 [] rfl (HW.out _) S A keep.length cap _ rfl (HR.out _) (ints_oneCell _ _) (by unfold maxLen; omega) (by omega) (by simp [World.setCell]) ?_); intro v' w1 hown1 hgrow hat; simp only [Nat.zero_add, List.nil_append] at hown1; obtain ⟨A1, cc1, rfl, _, _, _⟩ := Reads.of_own hown1; have hgr := ((Only.refl NoF _).alloc _).grown hgrow (fun k hk => Or.inr (by have hk' : some w.heap.size = some k := hk; injection hk' with hk'; simp [World.setCell]; omega)); have B4 := Lib.hid (Blk.grown (HB.out _) hgrow (fun e => by have e' : some b = some w.heap.size := e; injection e' with e'; omega)); have e1 := B4.out.cell 5; have e2 := B4.out.frozen 5; have G1 := Lib.hid (And.intro hown1 hgr); clear hown1 hgrow hat hgr)
  go_end0
  refine ⟨rfl, ?_⟩
  rw [HF.out]
  refine rearm_fin H.out hn hl ?_ G1.out.1
  rcases Int.lt_or_le n 0 with hz | hz
  · rw [show max n 0 = 0 by omega]
    first | exact G1.out.2 | (exfalso; omega)
  · rw [show max n 0 = n by omega]
    first | exact G1.out.2 | (exfalso; omega)
end
end
section
open Go.RowKit
section
variable {w : World} {b : Nat} {D : Dsk} {F : Foot}
theorem setFile_same (g : Int → Str × Str) (f : Int) : Dsk.setFile g f (g f) = g := by
 funext i
 simp only [Dsk.setFile]
 split
 · rename_i h; rw [h]
 · rfl
theorem rsurvive_c (h : IsRef w b D F) (f n : Int) (h0 : 0 ≤ f) (h1 : f < 16) (n0 : 0 ≤ n) (n1 : n ≤ 262144) :
 Calls Tryz.prog 36 #[.pointer (some ⟨b, 0, none⟩), .agg #[.int .i64 f, .int .i64 n]] w fun e w' => e = .returned (.tuple #[]) ∧ RefTo w b F { D with file := Dsk.survive D.file (f, n) } w' := by
 have hW := h.only ((Only.refl NoF w).alloc (.cells #[.int .i64 f, .int .i64 n] 90)) fun _ _ h => h
 have hget := rget_c hW f
 have hlf := (by obtain ⟨x, i, _⟩ := h; exact i.ok.lens f : (D.file f).1.length ≤ 16777216 ∧ (D.file f).2.length ≤ 16777216)
 obtain ⟨s1, s2, hss⟩ : ∃ s1 s2, D.file f = (s1, s2) := ⟨_, _, rfl⟩
 rw [hss] at hget hlf
 have HSS := Lib.hid hss
 have H := Lib.hid h
 have HG := Lib.hid hget
 obtain ⟨hl1, hl2⟩ := hlf
 simp only at hl1 hl2
 clear hss h hW hget
 go_enter Tryz.func36, Tryz.ntmps36
 go_wp2_with fail
 refine HG.out.mono ?_
 rintro e w1 ⟨rfl, hB1⟩
 have B1 := Lib.hid hB1
 have hP1 := (Blk.new w 90 #[.int .i64 f, .int .i64 n]).below hB1 (by simp)
 have p1 := hP1.cell 0
 have p2 := hP1.cell 1
 have hpl := hP1.lt
 have P1 := Lib.hid hP1
 have hsz := hB1.size
 simp only [World.size_alloc] at hsz
 have hne : ¬ w.heap.size = w1.heap.size := by omega
 clear hB1 hP1
 by_cases hlt : 64 * n < (s1.length : Int)
 · have hm0 : ∃ m : Int, (if (s1.length : Int) < 64 * n + 64 then (s1.length : Int) else 64 * n + 64) = m := ⟨_, rfl⟩
   obtain ⟨m, hm⟩ := hm0
   have hma : 0 ≤ m := by split at hm <;> omega
   have hmb : m ≤ (s1.length : Int) := by split at hm <;> omega
   have hmc : 64 * n ≤ m := by split at hm <;> omega
   have hwr : IntKind.i64.wrap (64 * n) = 64 * n := by rw [IntKind.wrap_i64]; omega
   have hwr2 : IntKind.i64.wrap (64 * n + 64) = 64 * n + 64 := by rw [IntKind.wrap_i64]; omega
   have a0 : 0 ≤ 64 * n := by omega
   have a1 : 64 * n ≤ 16777216 := by omega
   go_wp2_with fail
   have HF := Lib.hid ((Blk.new w1 92 #[.int .i64 f, strV s1, strV s2]).drew)
   have HPB := Lib.hid ((P1.out.alloc (.cells #[.int .i64 f, strV s1, strV s2] 92)).drew)
   have f1 := HF.out.cell 1
   have f2 := HF.out.cell 2
   have q1 := HPB.out.cell 1
   have hs2 : ((w1.alloc (.cells #[.int .i64 f, strV s1, strV s2] 92)).drew).heap.size = w1.heap.size + 1 := by simp
   have OW := Lib.hid ((((Only.of_below (F := NoF) ((Below.refl w.heap.size w).alloc (Nat.le_refl _) (.cells #[.int .i64 f, .int .i64 n] 90)) (Nat.le_refl _)).trans' (Only.of_below (F := NoF) B1.out (Nat.le_refl _))).alloc (.cells #[.int .i64 f, strV s1, strV s2] 92)).drew)
   refine wp_region_reads [0, 1, 2, 3, 4, 5, 6, 7, 8, 9, 10, 11, 12, 13, 14, 15, 16, 17, 18] [19, 20, 21] (fun k w' => k ≤ 1 → w'.cell? ⟨w.heap.size, 1, none⟩ = some (.int .i64 n) ∧ w'.cell? ⟨w1.heap.size, 1, none⟩ = some (strV s1) ∧ w'.cell? ⟨w1.heap.size, 2, none⟩ = some (strV s2)) (by kernel_rfl) (by kernel_rfl) (fun _ _ _ _ _ h => h) (fun _ => ⟨q1, f1, f2⟩) ?_
   iterate 19
    refine wpReads_cons rfl ?_ (by rfl) (fun w' k hk hS => ?_) ?_
    rotate_left
    · obtain ⟨s0, s1, s2⟩ := hS (by have := Nat.le_trans hk (Nat.le_of_ble_eq_true (m := 1) (by kernel_rfl)); omega)
      go_simp
      with_reducible rfl
    try go_simp
   refine wpReads_nil ?_
   refine wpTail_cons rfl rfl ?_
   have hsl : (s1.drop (64 * n).toNat).take (m.toNat - (64 * n).toNat) = (s1.drop (64 * n).toNat).take 64 := by
    split at hm
    · rw [List.take_of_length_le (by simp; omega), List.take_of_length_le (by simp; omega)]
    · rw [show m.toNat - (64 * n).toNat = 64 by omega]
   go_simp
   refine (rPut_c _ s2 ((s1.drop (64 * n).toNat).take 64) (64 * n) a0 a1 hl2 (by simp; omega)).mono ?_
   rintro e w6 ⟨rfl, ho6⟩
   have hF6 := HF.out.only ho6 id
   have hP6 := HPB.out.only ho6 id
   have f60 := hF6.cell 0
   have f61 := hF6.cell 1
   have f62 := hF6.cell 2
   have z62 := hF6.frozen 2
   have q61 := hP6.cell 1
   refine ⟨⟨q61, f61, f62⟩, ?_⟩
   clear f1 f2 q1
   refine wpTail_run rfl rfl (by go_simp; exact ⟨rfl, rfl⟩) (fun h => absurd h (by decide)) ?_
   try go_simp
   refine wpTail_skip rfl rfl (by go_simp; with_reducible rfl) (fun h => absurd h (by decide)) ?_
   try go_simp
   refine wpTail_nil ?_
   obtain ⟨y, hy⟩ : ∃ y, put s2 (64 * n).toNat ((s1.drop (64 * n).toNat).take 64) = y := ⟨_, rfl⟩
   have hyl : y.length ≤ 16777216 := by
    rw [← hy]
    exact length_put_le _ _ _ _ hl2 fun _ => by simp; omega
   have HY := Lib.hid hy
   rw [hy]
   have O6 := Lib.hid (OW.out.trans' ho6)
   have HST := Lib.hid (fun u => rset_c (H.out.only (O6.out.setCell (p := ⟨w1.heap.size, 2, none⟩) (.inr (by simp; omega)) u) fun _ _ h => h) f s1 y h0 h1 ⟨hl1, hyl⟩)
   have OST := Lib.hid (fun u => O6.out.setCell (p := ⟨w1.heap.size, 2, none⟩) (.inr (by simp; omega)) u)
   clear ho6 hF6 hP6 hy hm hsl
   go_wp2_with fail
   refine (HST.out _).mono ?_
   rintro e w7 ⟨rfl, h7⟩
   have R7 := Lib.hid (RefTo.trans ((OST.out _).mono fun _ h => h.elim) (fun _ hk => .inl hk) (fun _ hk => .inl hk) h7)
   clear h7
   go_wp2_with fail
   go_end0
   have e : Dsk.survive D.file (f, n) = Dsk.setFile D.file f (s1, y) := by
    unfold Dsk.survive
    simp only
    rw [HSS.out, if_pos (by simp only; omega), show n * 64 = 64 * n by omega]
    simp only
    rw [HY.out]
   rw [e]
   exact ⟨rfl, R7.out⟩
 · have HST := Lib.hid (fun u : Obj => rset_c (H.out.only (((Only.of_below (F := NoF) ((Below.refl w.heap.size w).alloc (Nat.le_refl _) (.cells #[.int .i64 f, .int .i64 n] 90)) (Nat.le_refl _)).trans' (Only.of_below (F := NoF) B1.out (Nat.le_refl _))).alloc u) fun _ _ h => h) f s1 s2 h0 h1 ⟨hl1, hl2⟩)
   have OST := Lib.hid (fun u : Obj => (((Only.of_below (F := NoF) ((Below.refl w.heap.size w).alloc (Nat.le_refl _) (.cells #[.int .i64 f, .int .i64 n] 90)) (Nat.le_refl _)).trans' (Only.of_below (F := NoF) B1.out (Nat.le_refl _))).alloc u))
   go_wp2_with fail
   refine (HST.out _).mono ?_
   rintro e w7 ⟨rfl, h7⟩
   have R7 := Lib.hid (RefTo.trans ((OST.out _).mono fun _ h => h.elim) (fun _ hk => .inl hk) (fun _ hk => .inl hk) h7)
   clear h7
   go_wp2_with fail
   go_end0
   have e : Dsk.survive D.file (f, n) = Dsk.setFile D.file f (s1, s2) := by
    unfold Dsk.survive
    simp only
    rw [← HSS.out, setFile_same, if_neg (by rw [HSS.out]; simp only; omega)]
   rw [e]
   exact ⟨rfl, R7.out⟩
end
end
section
open Go.RowKit
def crashd (y : Int × Str × Str) : Int × Str × Str := (y.1, y.2.2, y.2.2)
theorem rlook_crashd (f : Int) : ∀ l : List (Int × Str × Str), rlook f (l.map crashd) = ((rlook f l).2, (rlook f l).2)
 | [] => rfl
 | y :: l => by
  simp only [List.map_cons, rlook, crashd]
  split
  · rfl
  · exact rlook_crashd f l
theorem map_crashd_keys (l : List (Int × Str × Str)) : (l.map crashd).map (·.1) = l.map (·.1) := by simp [List.map_map, crashd, Function.comp_def]
def Dsk.fin (E : Dsk) : Dsk := { E with file := fun f => ((E.file f).2, (E.file f).2), queue := [] }
theorem Dsk.Ok.fin {E : Dsk} (h : E.Ok) : E.fin.Ok :=
 { h with lens := fun f => ⟨(h.lens f).2, (h.lens f).2⟩, out := fun f hf => by simp [Dsk.fin, h.out f hf], q := by simp [Dsk.fin], nodup := by simp [Dsk.fin] }
theorem rcrash_eq (D : Dsk) (keep : List Int) (i : Nat) (hd : D.down = false) (hi : i = D.queue.length ∨ keep = []) : D.crash keep = (D.crashing keep i).fin := by
 have hf : Dsk.crashF keep 0 (D.queue.take i) D.file = Dsk.crashF keep 0 D.queue D.file := by
  rcases hi with rfl | rfl
  · rw [List.take_length]
  · have : ∀ (q : List (Int × Int)) (j : Nat) (g : Int → Str × Str), Dsk.crashF [] j q g = g := by
     intro q
     induction q with
     | nil => intro j g; rfl
     | cons p q ih => intro j g; simp [Dsk.crashF, Dsk.survives, ih]
    rw [this, this]
 unfold Dsk.crash Dsk.fin Dsk.crashing
 rw [hd, if_neg (by simp)]
 simp only [hf]
section
variable {w : World} {b : Nat} {D : Dsk} {F : Foot}
theorem rcrash_fin {x : RWit} {w5 : World} (h : IsRefW w b D x) (hb : Below w.heap.size w w5) {A : Option Addr} {c : Nat}
 (hown : w5.ownsRow w.heap.size 92 3 (.slice A x.fl.length c) x.fl.length (fileCells (x.fl.map crashd))) :
 RefTo w b (x.foot b) D.fin ((w5.setCell ⟨b, 0, none⟩ (.slice A x.fl.length c)).setCell ⟨b, 1, none⟩ (.slice none 0 0)) := by
 have h5 := h.only (Only.of_below (F := NoF) hb (Nat.le_refl _)) fun _ _ h => h
 obtain ⟨a1, a2, a3⟩ := h5.apart
 have ho : Only (oneF b) w5 ((w5.setCell ⟨b, 0, none⟩ (.slice A x.fl.length c)).setCell ⟨b, 1, none⟩ (.slice none 0 0)) := ((Only.refl (oneF b) w5).setCell (p := ⟨b, 0, none⟩) (.inl rfl) _).setCell (p := ⟨b, 1, none⟩) (.inl rfl) _
 have hbl := h.blk.lt
 have hI : IsRefW ((w5.setCell ⟨b, 0, none⟩ (.slice A x.fl.length c)).setCell ⟨b, 1, none⟩ (.slice none 0 0)) b D.fin { x with fv := .slice A x.fl.length c, q := .slice none 0 0, fl := x.fl.map crashd } := {
  blk := (h5.blk.set_ 0 _).set_ 1 _
  fo := by
   simp only [List.length_map]
   exact own_only (own_base hown (Nat.zero_le _)) ho fun k hk e => by
    have := (hown.lt k hk).1
    have e' : k = b := e
    omega
  own := World.ownsRow_nil _ _ _ _
  kpo := own_only h5.kpo ho fun k hk => (a3 k hk).1
  abs := fun g => by
   rw [rlook_crashd, h.abs]
   rfl
  keys := by rw [map_crashd_keys]; exact h.keys
  fkey := fun z hz => by
   obtain ⟨y, hy, rfl⟩ := List.mem_map.1 hz
   exact h.fkey y hy
  ok := h.ok.fin }
 refine hI.to (((Only.of_below (F := (x.foot b).m) hb (Nat.le_refl _)).setCell (p := ⟨b, 0, none⟩) (.inl (.inl rfl)) _).setCell (p := ⟨b, 1, none⟩) (.inl (.inl rfl)) _) rfl fun k hk => ?_
 rcases hk with hk | hk | hk
 · exact .inl (.inl hk)
 · exact .inr (hown.lt k hk).1
 · simp [Value.ownBlock] at hk
theorem fileCells_crashd (l : List (Int × Str × Str)) (k : Nat) (hk : k < l.length) : fileCells ((l.take (k + 1)).map crashd) = fileCells ((l.take k).map crashd) ++ [.int .i64 l[k].1, strV l[k].2.2, strV l[k].2.2] := by
 rw [List.take_succ_eq_append_getElem hk, List.map_append, fileCells_append]
 rfl
theorem rCrash_up (h : IsRef w b D F) (hd : D.down = false) {S : Nat → Prop} {keep : List Int} (Ak : Option Addr) (ck : Nat) (hr : Reads w S 1 Ak keep.length (keep.map (Value.int .i64))) (hl : keep.length ≤ 1000) (hS : ∀ k, S k → ¬ F.m k) :
 Calls Tryz.prog 15 #[.pointer (some ⟨b, 0, none⟩), .slice Ak keep.length ck] w fun e w' => e = .returned (.tuple #[]) ∧ RefTo w b F (D.crash keep) w' := by
 obtain ⟨x, h, hF⟩ := h
 obtain ⟨_, _, _, d3, d4, _⟩ := h.cells
 rw [hd] at d3
 have z3 := h.blk.frozen 3
 have z4 := h.blk.frozen 4
 have hql := h.ok.qlen
 have h1 : IsRefW ((w.setCell ⟨b, 3, none⟩ (.bool true)).setCell ⟨b, 4, none⟩ (.int .i64 0)) b (D.crashing keep 0) x :=
  (h.store (D' := { D with down := true }) 3 (.bool true) rfl rfl rfl rfl { h.ok with }).store (D' := D.crashing keep 0) 4 (.int .i64 0) rfl rfl rfl rfl (h.ok.crashing keep 0)
 have H1 := Lib.hid (show RefTo w b F (D.crashing keep 0) ((w.setCell ⟨b, 3, none⟩ (.bool true)).setCell ⟨b, 4, none⟩ (.int .i64 0)) from
  h1.to (((Only.refl F.m w).setCell (p := ⟨b, 3, none⟩) (.inl (by rw [hF]; exact .inl rfl)) _).setCell (p := ⟨b, 4, none⟩) (.inl (by rw [hF]; exact .inl rfl)) _) hF fun k hk => .inl hk)
 have HRD := Lib.hid (fun (w' : World) (ho : Only F.m w w') => hr.only ho hS)
 have HD := Lib.hid hd
 have HOK := Lib.hid h.ok
 clear h h1 hF hr hS hd
 go_enter Tryz.func15, Tryz.ntmps15
 go_wp2_with fail
 clear d3 d4 z3 z4
 go_loopw [4] (fun v wr => ∃ i : Nat, i ≤ D.queue.length ∧ v = .int .i64 (i : Int) ∧ (keep = [] → i = 0) ∧ RefTo w b F (D.crashing keep i) wr) (fun v _ => D.queue.length - (intOf v).toNat)
 case atStart => exact ⟨0, by omega, by go_num, fun _ => rfl, H1.out⟩
 case round =>
  obtain ⟨i, hi, rfl, hk0, hR⟩ := hrel
  have HR := Lib.hid hR
  have HK0 := Lib.hid hk0
  clear hR hk0
  obtain ⟨Fi, ⟨xi, hxi, hFi⟩, hOi, hFi2, hFi3⟩ := HR.out
  have HX := Lib.hid hxi
  have HFI := Lib.hid (And.intro hFi (And.intro hOi (And.intro hFi2 hFi3)))
  obtain ⟨Aq, cq, eq_, _, _, hrq⟩ := Reads.of_own hxi.own
  obtain ⟨_, d1, _⟩ := hxi.cells
  rw [eq_] at d1
  have hqe : (D.crashing keep i).queue = D.queue := rfl
  rw [hqe] at d1 hrq
  have HRQ := Lib.hid hrq
  clear hrq hxi hFi hOi hFi2 hFi3 eq_ hqe
  by_cases hgo : i < D.queue.length ∧ 0 < keep.length
  · obtain ⟨hlt, hkp⟩ := hgo
    obtain ⟨g, off, rfl, _, hg, hcc⟩ := HRQ.out.form (by omega) (by decide)
    obtain ⟨c0, c1⟩ := secCells_get D.queue i hlt
    have q0 := hcc _ _ c0
    have q1 : wr.cell? ⟨g, off + i * 2 + 1, none⟩ = _ := hcc _ _ c1
    obtain ⟨gk, offk, rfl, _, hgk, hck⟩ := (HRD.out wr HFI.out.2.1).form hkp (by decide)
    have hj : i % keep.length < keep.length := Nat.mod_lt _ hkp
    have ck0 := hck (i % keep.length) (.int .i64 keep[i % keep.length]) (by simp [hj])
    have hkne : ¬ keep.length = 0 := by omega
    have hbit := bits_1 keep[i % keep.length]
    have hk0 : keep ≠ [] := by intro e; rw [e] at hkp; simp at hkp
    have hsv : Dsk.survives keep i = decide (keep[i % keep.length] % 2 = 1) := by simp [Dsk.survives, hk0, hj]
    generalize hkv : keep[i % keep.length] = kv at ck0 hbit hsv
    have HKN := Lib.hid hk0
    have hqi := HOK.out.q D.queue[i] (List.getElem_mem hlt)
    have hsucc := Dsk.crashing_succ D keep i hlt
    clear hcc c0 c1 hck hk0
    by_cases hodd : kv % 2 = 1
    · rw [hodd] at hbit
      rw [hsv, decide_eq_true hodd, if_pos rfl] at hsucc
      have HSU := Lib.hid hsucc
      have HSV := Lib.hid (rsurvive_c ⟨xi, HX.out, rfl⟩ D.queue[i].1 D.queue[i].2 hqi.1 hqi.2.1 hqi.2.2.1 hqi.2.2.2)
      clear hsucc hsv hodd
      go_wp2_with fail
      refine HSV.out.mono ?_
      rintro e w2 ⟨rfl, h2⟩
      have R2 := Lib.hid (RefTo.trans HFI.out.2.1 HFI.out.2.2.1 HFI.out.2.2.2 (by rw [HFI.out.1]; exact h2))
      clear h2
      go_wp2_with fail
      go_roundw
      case rel => exact ⟨i + 1, by omega, by go_num, fun e => absurd e HKN.out, by rw [HSU.out]; exact R2.out⟩
      case measure => simp [intOf]; omega
    · have hev : kv % 2 = 0 := by omega
      rw [hev] at hbit
      rw [hsv, decide_eq_false hodd, if_neg (by simp)] at hsucc
      have HSU := Lib.hid hsucc
      clear hsucc hsv hodd hev
      go_wp2_with fail
      go_roundw
      case rel => exact ⟨i + 1, by omega, by go_num, fun e => absurd e HKN.out, by rw [HSU.out]; exact HR.out⟩
      case measure => simp [intOf]; omega
  · have hcf := rcrash_eq D keep i HD.out (by
     by_cases h : i < D.queue.length
     · exact .inr (List.eq_nil_of_length_eq_zero (by omega))
     · exact .inl (by omega))
    have HCF := Lib.hid hcf
    have hgo2 : ¬ ((i : Int) < (D.queue.length : Int)) ∨ ((i : Int) < (D.queue.length : Int) ∧ ¬ (0 < (keep.length : Int))) := by omega
    obtain ⟨Af, cf, ef, _, _, hrf⟩ := Reads.of_own HX.out.fo
    have hfl := HX.out.len
    obtain ⟨d0, _⟩ := HX.out.cells
    rw [ef] at d0
    have hbl := HX.out.blk.lt
    have z0 := HX.out.blk.frozen 0
    have z1 := HX.out.blk.frozen 1
    have HRF := Lib.hid hrf
    obtain ⟨ti, hti, hz0, hz1, hz2⟩ := info_parts info_RFile
    clear hcf hgo hrf ef
    rcases hgo2 with hga | ⟨hga, hgb⟩
    all_goals
     go_wp2_with fail
     rename World => wo
     go_loopw [5, 6] (fun v i wr => ∃ k : Nat, k ≤ xi.fl.length ∧ i = .int .i64 (k : Int) ∧ wr.ownsRow wo.heap.size 92 3 v k (fileCells ((xi.fl.take k).map crashd)) ∧ Below wo.heap.size wo wr) (fun _ i _ => xi.fl.length - (intOf i).toNat)
     case atStart => exact ⟨0, by omega, by go_num, by simpa [fileCells] using World.ownsRow_nil _ _ _ _, Below.refl _ _⟩
     case round =>
      obtain ⟨k, hkk, rfl, hown, hB⟩ := hrel
      have e0 := (hB.cell (p := ⟨b, 0, none⟩) hbl).trans d0
      have e1 := (hB.cell (p := ⟨b, 1, none⟩) hbl).trans d1
      have e8 := (hB.frozen (p := ⟨b, 0, none⟩) hbl).trans z0
      have e9 := (hB.frozen (p := ⟨b, 1, none⟩) hbl).trans z1
      have hwb := hB.size
      have HB := Lib.hid hB
      have HOWN := Lib.hid hown
      obtain ⟨Av, cv, rfl, hv1, hv2, _⟩ := Reads.of_own hown
      clear hB hown
      by_cases hlt : k < xi.fl.length
      · obtain ⟨g, off, rfl, _, hg, hcc⟩ := HRF.out.form (by omega) (by decide)
        obtain ⟨c0, c1, c2⟩ := fileCells_get xi.fl k hlt
        have q0 : wr.cell? ⟨g, off + k * 3, none⟩ = _ := (HB.out.cell (p := ⟨g, off + k * 3, none⟩) hg).trans (hcc _ _ c0)
        have q2 : wr.cell? ⟨g, off + k * 3 + 2, none⟩ = _ := (HB.out.cell (p := ⟨g, off + k * 3 + 2, none⟩) hg).trans (hcc _ _ c2)
        have hgw : g < wr.heap.size := by omega
        have hbw : b < wr.heap.size := by omega
        have R0 := Lib.hid (hcc _ _ c0)
        have r2 : wo.cell? ⟨g, off + k * 3 + 2, none⟩ = some (strV xi.fl[k].2.2) := hcc _ _ c2
        have R2 := Lib.hid r2
        clear c0 c1 c2 hcc r2
        go_wp2_with fail
        refine wp_region_reads [0, 1, 2, 3, 4, 5, 6, 7, 8, 9, 10, 11, 12, 13, 14, 15, 16, 17, 18, 19, 20, 21, 22, 23, 24, 25] [26, 27, 28] (fun _ w' => w'.cell? ⟨b, 0, none⟩ = some (.slice (some ⟨g, off, none⟩) xi.fl.length cf) ∧ w'.cell? ⟨g, off + k * 3, none⟩ = some (.int .i64 xi.fl[k].1) ∧ w'.cell? ⟨g, off + k * 3 + 2, none⟩ = some (strV xi.fl[k].2.2)) (by kernel_rfl) (by kernel_rfl) (fun _ _ _ _ _ h => h) ⟨e0, q0, q2⟩ ?_
        iterate 26
         refine wpReads_cons rfl ?_ (by rfl) (fun w' k hk hS => ?_) ?_
         rotate_left
         · obtain ⟨s0, s1, s2⟩ := hS
           go_simp
           with_reducible rfl
         try go_simp
        refine wpReads_nil ?_
        refine wpTail_run rfl rfl (by go_simp; exact ⟨rfl, rfl⟩) ⟨by go_simp, by go_simp, by go_simp⟩ ?_
        try go_simp
        refine wpTail_cons rfl rfl (wp_append_any _ _ _ _ rfl wo.heap.size 92 ti _ 3 40 Tryz.underlying59 hti hz0 hz1 hz2 rfl (by decide) (.slice Av k cv) _ _ rfl (own_only HOWN.out (((Only.refl NoF wr).alloc _).drew) fun _ _ h => h) _ _ 1 1 _ rfl ((reads_made wr 92 3 1 [.int .i64 xi.fl[k].1, strV xi.fl[k].2.2, strV xi.fl[k].2.2] rfl).only ((Only.refl NoF _).drew) fun _ _ h => h) ?_ ?_ ?_ ?_ ?_)
        · intro u hu
          simp at hu
          rcases hu with rfl | rfl | rfl <;> rfl
        · unfold maxLen
          omega
        · omega
        · simp
          omega
        intro v' w4 hown4 hg4 hat
        have hOW : ∀ j, (Value.slice Av k cv).ownBlock = some j → wo.heap.size ≤ j := fun j hj => (HOWN.out.lt j hj).1
        have hG2 := belowG (HB.out.alloc hwb (.cells #[.int .i64 xi.fl[k].1, strV xi.fl[k].2.2, strV xi.fl[k].2.2] 92)).drew hg4 (by simp; omega) fun j hj => hOW j hj
        have G1 := Lib.hid (show w4.ownsRow wo.heap.size 92 3 v' (k + 1) (fileCells ((xi.fl.take (k + 1)).map crashd)) by rw [fileCells_crashd _ _ hlt]; exact hown4)
        have s0 := (hG2.cell (p := ⟨b, 0, none⟩) hbl).trans d0
        have s1 := (hG2.cell (p := ⟨g, off + k * 3, none⟩) hg).trans R0.out
        have s2 := (hG2.cell (p := ⟨g, off + k * 3 + 2, none⟩) hg).trans R2.out
        have G2 := Lib.hid hG2
        clear hown4 hg4 hat hOW hG2
        refine ⟨⟨s0, s1, s2⟩, ?_⟩
        try go_simp
        refine wpTail_run rfl rfl (by go_simp; first | rfl | exact ⟨rfl, rfl⟩) ⟨s0, s1, s2⟩ ?_
        try go_simp
        refine wpTail_nil ?_
        clear s0 s1 s2 e0 e1 e8 e9 q0 q2
        go_wp2_with fail
        go_roundw
        case rel => exact ⟨k + 1, by omega, by go_num, G1.out, G2.out⟩
        case measure => simp [intOf]; omega
      · obtain rfl : k = xi.fl.length := by omega
        have HX2 := Lib.hid (show wr.ownsRow wo.heap.size 92 3 (.slice Av xi.fl.length cv) xi.fl.length (fileCells (xi.fl.map crashd)) by have := HOWN.out; rw [List.take_length] at this; exact this)
        clear HOWN
        go_wp2_with fail
        go_end0
        refine ⟨rfl, ?_⟩
        rw [HCF.out]
        exact RefTo.trans HFI.out.2.1 HFI.out.2.2.1 HFI.out.2.2.2 (by rw [HFI.out.1]; exact rcrash_fin HX.out HB.out HX2.out)
theorem rCrashR_c (h : IsRef w b D F) {S : Nat → Prop} {keep : List Int} (Ak : Option Addr) (ck : Nat) (hr : Reads w S 1 Ak keep.length (keep.map (Value.int .i64))) (hl : keep.length ≤ 1000) (hS : ∀ k, S k → ¬ F.m k) :
 Calls Tryz.prog 15 #[.pointer (some ⟨b, 0, none⟩), .slice Ak keep.length ck] w fun e w' => e = .returned (.tuple #[]) ∧ RefTo w b F (D.crash keep) w' := by
 cases hd : D.down with
 | false => exact rCrash_up h hd Ak ck hr hl hS
 | true =>
  have Hp := Lib.hid (show D.crash keep = D by simp [Dsk.crash, hd])
  have H := Lib.hid h
  obtain ⟨x, h, _⟩ := h
  obtain ⟨_, _, _, d3, _, _⟩ := h.cells
  rw [hd] at d3
  clear h hr hS hd
  go_enter Tryz.func15, Tryz.ntmps15
  go_wp2
  refine bodyPost_ret (results_none rfl _ _ _) rfl ?_
  rw [Hp.out]
  exact ⟨rfl, .same H.out⟩
theorem rCrash_c (h : IsRef w b D F) {S : Nat → Prop} {v : Value} {keep : List Int} (hk : Ints S w v keep) (hl : keep.length ≤ 1000) (hS : ∀ k, S k → ¬ F.m k) :
 Calls Tryz.prog 15 #[.pointer (some ⟨b, 0, none⟩), v] w fun e w' => e = .returned (.tuple #[]) ∧ RefTo w b F (D.crash keep) w' := by
 obtain ⟨Ak, ck, rfl, _, _, hr⟩ := hk.cells
 exact rCrashR_c h Ak ck hr hl hS
/-- a crash with what was laid by Arm -/
theorem rCrash_own {x : RWit} (h : IsRefW w b D x) : Calls Tryz.prog 15 #[.pointer (some ⟨b, 0, none⟩), x.kp] w fun e w' => e = .returned (.tuple #[]) ∧ RefTo w b (x.foot b) (D.crash D.keep) w' := by
 obtain ⟨A, c, e, _, _, hr⟩ := Reads.of_own h.kpo
 obtain ⟨a1, a2, a3⟩ := h.apart
 have := rCrashR_c ⟨x, h, rfl⟩ A c hr h.ok.keep fun k hk hm => by
  rcases hm with hm | hm | hm
  · exact (a3 k hk).1 hm
  · exact (a3 k hk).2.1 hm
  · exact (a3 k hk).2.2 hm
 rw [e]
 exact this
end
end
section
open Go.RowKit
def Dsk.comes (D : Dsk) (f at_ : Int) (s : Str) : Dsk := if D.ends then (D.tick.write0 f at_ s).1.crash (D.tick.write0 f at_ s).1.keep else D.tick
section
variable {w : World} {b : Nat} {D : Dsk} {F : Foot}
theorem rcomes_c (h : IsRef w b D F) (f at_ : Int) (s : Str) (ha : I64 at_) (hs : s.length ≤ 1000000) :
 Calls Tryz.prog 89 #[.pointer (some ⟨b, 0, none⟩), .int .i64 f, .int .i64 at_, strV s] w fun e w' => e = .returned (.tuple #[]) ∧ RefTo w b F (D.comes f at_ s) w' := by
 obtain ⟨x, h, hF⟩ := h
 obtain ⟨_, _, _, d3, d4, d5⟩ := h.cells
 have z4 := h.blk.frozen 4
 have har := h.ok.armed
 have HF := Lib.hid hF
 have H := Lib.hid h
 cases hd : D.down with
 | true =>
  have Hp := Lib.hid (show D.comes f at_ s = D by simp [Dsk.comes, Dsk.ends, Dsk.tick, hd])
  rw [hd] at d3
  clear h hF hd
  go_enter Tryz.func89, Tryz.ntmps89
  go_wp2
  refine bodyPost_ret (results_none rfl _ _ _) rfl ?_
  rw [Hp.out]
  exact ⟨rfl, .same ⟨x, H.out, HF.out⟩⟩
 | false =>
  rw [hd] at d3
  by_cases h0 : D.armed = 0
  · have Hp := Lib.hid (show D.comes f at_ s = D by simp [Dsk.comes, Dsk.ends, Dsk.tick, h0])
    have h0' : (D.armed == 0) = true := by simp [h0]
    clear h hF hd h0
    go_enter Tryz.func89, Tryz.ntmps89
    go_wp2
    refine bodyPost_ret (results_none rfl _ _ _) rfl ?_
    rw [Hp.out]
    exact ⟨rfl, .same ⟨x, H.out, HF.out⟩⟩
  · have et : D.tick = { D with armed := D.armed - 1 } := by simp [Dsk.tick, hd, h0]
    have h0' : (D.armed == 0) = false := by simp [h0]
    have HT := Lib.hid (h.store (D' := D.tick) 4 (.int .i64 (D.armed - 1)) (by rw [et]; rfl) (by rw [et]) (by rw [et]) (by rw [et]) h.ok.tick)
    have HTO := Lib.hid (show Only F.m w (w.setCell ⟨b, 4, none⟩ (.int .i64 (D.armed - 1))) from (Only.refl F.m w).setCell (p := ⟨b, 4, none⟩) (.inl (by rw [hF]; exact .inl rfl)) _)
    by_cases h2 : D.armed = 1
    · have hen : D.ends = true := by simp [Dsk.ends, hd, h2]
      have hkeep : (D.tick.write0 f at_ s).1.keep = D.keep := by
       have : D.tick.keep = D.keep := by rw [et]
       unfold Dsk.write0
       split
       · exact this
       split
       · exact this
       split
       · exact this
       · simp only [Dsk.add]
         split <;> exact this
      have htd : D.tick.down = false := by rw [et]; exact hd
      have h2' : ¬ (0 < D.armed - 1) := by omega
      have h2b : D.armed - 1 ≤ 0 := by omega
      by_cases hin : 0 ≤ f ∧ f ≤ 15 ∧ Dsk.fits at_ s
      · obtain ⟨f0, f1, hfit⟩ := hin
        obtain ⟨t0, t1, t2⟩ := hfit
        have hw0 : (D.tick.write0 f at_ s).1 = D.tick.add f at_.toNat s := by
         simp only [Dsk.write0, Dsk.may, htd]
         rw [if_neg (by simp; omega), if_neg (by omega), if_neg (by simp [Dsk.fits]; omega)]
        have Hp := Lib.hid (show D.comes f at_ s = (D.tick.add f at_.toNat s).crash D.keep by unfold Dsk.comes; rw [hen, if_pos rfl, hkeep, hw0])
        have hff := fun W : World => rfits_c (w := W) at_ s ha hs
        rw [decide_eq_true (show Dsk.fits at_ s from ⟨t0, t1, t2⟩)] at hff
        have HFF := Lib.hid hff
        have hadd := radd_c ⟨x, HT.out, rfl⟩ f at_.toNat s f0 (by omega) (by omega)
        rw [Int.toNat_of_nonneg t0] at hadd
        have HADD := Lib.hid hadd
        have HKE := Lib.hid (show (D.tick.add f at_.toNat s).keep = D.keep by rw [← hkeep, hw0])
        clear h hF hd h0 h2 hff hadd hen et hw0 hkeep htd
        go_enter Tryz.func89, Tryz.ntmps89
        go_wp2_with fail
        refine (HFF.out _).mono ?_
        rintro e w' ⟨rfl, rfl⟩
        go_wp2_with fail
        refine HADD.out.mono ?_
        rintro e w2 ⟨rfl, h2⟩
        obtain ⟨F2, ⟨x2, i2, e2⟩, o2, f2, r2⟩ := h2
        have c5 := i2.blk.cell 5
        have HC := Lib.hid (rCrash_own i2)
        have HO := Lib.hid (And.intro e2 (And.intro o2 (And.intro f2 r2)))
        clear i2 e2 o2 f2 r2
        go_wp2_with fail
        refine HC.out.mono ?_
        rintro e w3 ⟨rfl, h3⟩
        have R3 := Lib.hid h3
        clear h3
        go_wp2_with fail
        go_end0
        refine ⟨rfl, ?_⟩
        rw [Hp.out, ← HKE.out]
        refine RefTo.trans HTO.out (fun _ hk => .inl hk) (fun _ hk => .inl hk) ?_
        rw [HF.out]
        exact RefTo.trans HO.out.2.1 HO.out.2.2.1 HO.out.2.2.2 (by rw [HO.out.1]; exact R3.out)
      · have hw0 : (D.tick.write0 f at_ s).1 = D.tick := by
         unfold Dsk.write0
         split
         · rfl
         · rename_i hm
           split
           · rfl
           · split
             · rfl
             · rename_i hm2 hm3
               exfalso
               simp only [Classical.not_not] at hm hm3
               have := Dsk.may_zero hm
               exact hin ⟨this.2.1, by omega, hm3⟩
        have Hp := Lib.hid (show D.comes f at_ s = D.tick.crash D.keep by unfold Dsk.comes; rw [hen, if_pos rfl, hkeep, hw0])
        have HKE := Lib.hid (show D.tick.keep = D.keep by rw [← hkeep, hw0])
        have hcr := rCrash_own HT.out
        have c5 := HT.out.blk.cell 5
        have HC := Lib.hid hcr
        have hcase : f < 0 ∨ (0 ≤ f ∧ 15 < f) ∨ (0 ≤ f ∧ f ≤ 15 ∧ ¬ Dsk.fits at_ s) := by
         by_cases a : f < 0
         · exact .inl a
         by_cases c : 15 < f
         · exact .inr (.inl ⟨by omega, c⟩)
         exact .inr (.inr ⟨by omega, by omega, fun hc => hin ⟨by omega, by omega, hc⟩⟩)
        clear h hF hd h0 h2 hen et hw0 hkeep htd hin hcr
        rcases hcase with a | ⟨a, c⟩ | ⟨a, c, d⟩
        · go_enter Tryz.func89, Tryz.ntmps89
          go_wp2_with fail
          refine HC.out.mono ?_
          rintro e w3 ⟨rfl, h3⟩
          have R3 := Lib.hid h3
          clear h3
          go_wp2_with fail
          go_end0
          refine ⟨rfl, ?_⟩
          rw [Hp.out, ← HKE.out]
          exact RefTo.trans HTO.out (fun _ hk => .inl hk) (fun _ hk => .inl hk) (by rw [HF.out]; exact R3.out)
        · go_enter Tryz.func89, Tryz.ntmps89
          go_wp2_with fail
          refine HC.out.mono ?_
          rintro e w3 ⟨rfl, h3⟩
          have R3 := Lib.hid h3
          clear h3
          go_wp2_with fail
          go_end0
          refine ⟨rfl, ?_⟩
          rw [Hp.out, ← HKE.out]
          exact RefTo.trans HTO.out (fun _ hk => .inl hk) (fun _ hk => .inl hk) (by rw [HF.out]; exact R3.out)
        · have hff := fun W : World => rfits_c (w := W) at_ s ha hs
          rw [decide_eq_false d] at hff
          have HFF := Lib.hid hff
          clear hff d
          go_enter Tryz.func89, Tryz.ntmps89
          go_wp2_with fail
          refine (HFF.out _).mono ?_
          rintro e w' ⟨rfl, rfl⟩
          go_wp2_with fail
          refine HC.out.mono ?_
          rintro e w3 ⟨rfl, h3⟩
          have R3 := Lib.hid h3
          clear h3
          go_wp2_with fail
          go_end0
          refine ⟨rfl, ?_⟩
          rw [Hp.out, ← HKE.out]
          exact RefTo.trans HTO.out (fun _ hk => .inl hk) (fun _ hk => .inl hk) (by rw [HF.out]; exact R3.out)
    · have Hp := Lib.hid (show D.comes f at_ s = D.tick by
       unfold Dsk.comes
       rw [if_neg]
       simp only [Dsk.ends, hd, Bool.false_or, h0', Bool.not_false, Bool.true_and, beq_iff_eq]
       omega)
      have h2' : 0 < D.armed - 1 := by omega
      clear h hF hd h0 h2 et
      go_enter Tryz.func89, Tryz.ntmps89
      go_wp2
      refine bodyPost_ret (results_none rfl _ _ _) rfl ?_
      rw [Hp.out]
      exact ⟨rfl, HT.out.to HTO.out HF.out fun _ hk => .inl hk⟩
end
end
section
open Go.RowKit
theorem tick_keep (D : Dsk) : D.tick.keep = D.keep ∧ D.tick.down = D.down := by
 unfold Dsk.tick
 split <;> exact ⟨rfl, rfl⟩
theorem ends_up {D : Dsk} (h : D.ends = true) : D.down = false := by
 unfold Dsk.ends at h
 cases hd : D.down with
 | false => rfl
 | true => rw [hd] at h; simp at h
theorem write0_down' (D : Dsk) (f a : Int) (s : Str) : (D.write0 f a s).1.down = D.down ∧ (D.write0 f a s).1.keep = D.keep := by
 unfold Dsk.write0
 split
 · exact ⟨rfl, rfl⟩
 split
 · exact ⟨rfl, rfl⟩
 split
 · exact ⟨rfl, rfl⟩
 · simp only [Dsk.add]
   split <;> exact ⟨rfl, rfl⟩
theorem crash_down {D : Dsk} (keep : List Int) (h : D.down = false) : (D.crash keep).down = true := by
 unfold Dsk.crash
 rw [h]
 rfl
theorem write_comes (D : Dsk) (f a : Int) (s : Str) : D.write f a s = (D.comes f a s).write0 f a s := by
 unfold Dsk.write Dsk.comes
 cases he : D.ends with
 | false => rfl
 | true =>
  simp only [if_true]
  have hd : ((D.tick.write0 f a s).1.crash (D.tick.write0 f a s).1.keep).down = true := crash_down _ ((write0_down' _ _ _ _).1.trans ((tick_keep D).2.trans (ends_up he)))
  generalize (D.tick.write0 f a s).1.crash (D.tick.write0 f a s).1.keep = E at hd
  simp [Dsk.write0, Dsk.may, hd]
theorem comes_tock (D : Dsk) : D.comes 0 0 [] = D.tock := by
 have hw : ∀ E : Dsk, (E.write0 0 0 []).1 = E := by
  intro E
  unfold Dsk.write0
  split
  · rfl
  split
  · rfl
  split
  · rfl
  · simp [Dsk.add]
 unfold Dsk.comes Dsk.tock
 rw [hw, (tick_keep D).1]
section
variable {w : World} {b : Nat} {D : Dsk} {F : Foot}
theorem RefTo.ref {w w1 : World} {D1 : Dsk} (h : RefTo w b F D1 w1) : ∃ F1, IsRef w1 b D1 F1 ∧ ∀ (w2 : World) (D2 : Dsk), RefTo w1 b F1 D2 w2 → RefTo w b F D2 w2 := by
 obtain ⟨F1, i1, o1, f1, r1⟩ := h
 exact ⟨F1, i1, fun _ _ h2 => RefTo.trans o1 f1 r1 h2⟩
theorem rWrite_c (h : IsRef w b D F) (f at_ : Int) (s : Str) (ha : I64 at_) (hs : s.length ≤ 1000000) :
 Calls Tryz.prog 76 #[.pointer (some ⟨b, 0, none⟩), .int .i64 f, .int .i64 at_, strV s] w fun e w' => e = .returned (.int .i64 (D.write f at_ s).2) ∧ RefTo w b F (D.write f at_ s).1 w' := by
 rw [write_comes]
 have hc := rcomes_c h f at_ s ha hs
 generalize D.comes f at_ s = E at hc
 have HC := Lib.hid hc
 clear h hc
 by_cases h1 : E.may f = 0
 · by_cases h2 : at_ < 0
   · have Hp := Lib.hid (show E.write0 f at_ s = (E, 1) by simp [Dsk.write0, h1, h2])
     have H1 := Lib.hid h1
     clear h1
     go_enter Tryz.func76, Tryz.ntmps76
     go_wp2_with fail
     refine HC.out.mono ?_
     rintro e w1 ⟨rfl, h1⟩
     obtain ⟨F1, i1, k1⟩ := h1.ref
     have hm := rmay_c i1 f
     rw [H1.out] at hm
     have HM := Lib.hid hm
     have R1 := Lib.hid h1
     clear hm i1 k1 h1
     go_wp2_with fail
     refine HM.out.mono ?_
     rintro e w' ⟨rfl, rfl⟩
     go_wp2_with fail
     go_ret
     rw [Hp.out]
     exact ⟨rfl, R1.out⟩
   · have h2' : 0 ≤ at_ := by omega
     by_cases h3 : Dsk.fits at_ s
     · have Hp := Lib.hid (show E.write0 f at_ s = (E.add f at_.toNat s, 0) by simp [Dsk.write0, h1, h2, h3])
       have hz := Dsk.may_zero h1
       have H1 := Lib.hid h1
       have hff := fun W : World => rfits_c (w := W) at_ s ha hs
       rw [decide_eq_true h3] at hff
       have HFF := Lib.hid hff
       obtain ⟨t0, t1, t2⟩ := h3
       have HZ := Lib.hid hz
       have HAT := Lib.hid (Int.toNat_of_nonneg t0)
       clear h1 hff hz h2
       go_enter Tryz.func76, Tryz.ntmps76
       go_wp2_with fail
       refine HC.out.mono ?_
       rintro e w1 ⟨rfl, h1⟩
       obtain ⟨F1, i1, k1⟩ := h1.ref
       have hm := rmay_c i1 f
       rw [H1.out] at hm
       have HM := Lib.hid hm
       have hadd := radd_c i1 f at_.toNat s HZ.out.2.1 HZ.out.2.2 (by omega)
       rw [HAT.out] at hadd
       have HADD := Lib.hid hadd
       have K1 := Lib.hid k1
       clear hm i1 k1 h1 hadd
       go_wp2_with fail
       refine HM.out.mono ?_
       rintro e w' ⟨rfl, rfl⟩
       go_wp2_with fail
       refine (HFF.out _).mono ?_
       rintro e w' ⟨rfl, rfl⟩
       go_wp2_with fail
       refine HADD.out.mono ?_
       rintro e w2 ⟨rfl, h2⟩
       have R2 := Lib.hid (K1.out _ _ h2)
       clear h2
       go_wp2_with fail
       go_ret
       rw [Hp.out]
       exact ⟨rfl, R2.out⟩
     · have Hp := Lib.hid (show E.write0 f at_ s = (E, 6) by simp [Dsk.write0, h1, h2, h3])
       have H1 := Lib.hid h1
       have hff := fun W : World => rfits_c (w := W) at_ s ha hs
       rw [decide_eq_false h3] at hff
       have HFF := Lib.hid hff
       clear h1 hff h2 h3
       go_enter Tryz.func76, Tryz.ntmps76
       go_wp2_with fail
       refine HC.out.mono ?_
       rintro e w1 ⟨rfl, h1⟩
       obtain ⟨F1, i1, k1⟩ := h1.ref
       have hm := rmay_c i1 f
       rw [H1.out] at hm
       have HM := Lib.hid hm
       have R1 := Lib.hid h1
       clear hm i1 k1 h1
       go_wp2_with fail
       refine HM.out.mono ?_
       rintro e w' ⟨rfl, rfl⟩
       go_wp2_with fail
       refine (HFF.out _).mono ?_
       rintro e w' ⟨rfl, rfl⟩
       go_wp2_with fail
       go_ret
       rw [Hp.out]
       exact ⟨rfl, R1.out⟩
 · have Hp := Lib.hid (show E.write0 f at_ s = (E, E.may f) by simp [Dsk.write0, h1])
   have h2 : (E.may f != 0) = true := by simp [h1]
   clear h1
   go_enter Tryz.func76, Tryz.ntmps76
   go_wp2_with fail
   refine HC.out.mono ?_
   rintro e w1 ⟨rfl, h1⟩
   obtain ⟨F1, i1, k1⟩ := h1.ref
   have HM := Lib.hid (rmay_c i1 f)
   have R1 := Lib.hid h1
   clear i1 k1 h1
   go_wp2_with fail
   refine HM.out.mono ?_
   rintro e w' ⟨rfl, rfl⟩
   go_wp2_with fail
   go_ret
   rw [Hp.out]
   exact ⟨rfl, R1.out⟩
theorem rSync_c (h : IsRef w b D F) (f : Int) :
 Calls Tryz.prog 56 #[.pointer (some ⟨b, 0, none⟩), .int .i64 f] w fun e w' => e = .returned (.int .i64 (D.sync f).2) ∧ RefTo w b F (D.sync f).1 w' := by
 have hc := rcomes_c h 0 0 [] (by unfold I64; omega) (by simp)
 rw [comes_tock] at hc
 unfold Dsk.sync
 generalize D.tock = E at hc
 have HC := Lib.hid hc
 clear h hc
 by_cases h1 : E.may f = 0
 · have H1 := Lib.hid h1
   have HZ := Lib.hid (Dsk.may_zero h1)
   by_cases h2 : 0 < E.lost
   · have Hp := Lib.hid (show E.sync0 f = ({ E with lost := E.lost - 1 }, 9) by simp [Dsk.sync0, h1, h2])
     clear h1
     go_enter Tryz.func56, Tryz.ntmps56
     go_wp2_with fail
     refine HC.out.mono ?_
     rintro e w1 ⟨rfl, h1⟩
     obtain ⟨F1, i1, k1⟩ := h1.ref
     have hm := rmay_c i1 f
     rw [H1.out] at hm
     have HM := Lib.hid hm
     obtain ⟨x, i1, e1⟩ := i1
     have c2 := i1.cells.2.2.1
     have z2 := i1.blk.frozen 2
     have hlo := i1.ok.lost
     have HS := Lib.hid (i1.store (D' := { E with lost := E.lost - 1 }) 2 (.int .i64 (E.lost - 1)) rfl rfl rfl rfl { i1.ok with lost := by have := i1.ok.lost; simp only; omega })
     have K1 := Lib.hid k1
     have HE := Lib.hid e1
     clear hm i1 k1 h1 e1
     go_wp2_with fail
     refine HM.out.mono ?_
     rintro e w' ⟨rfl, rfl⟩
     go_wp2_with fail
     go_ret
     rw [Hp.out]
     exact ⟨rfl, K1.out _ _ (HS.out.to ((Only.refl F1.m w1).setCell (p := ⟨b, 2, none⟩) (.inl (by rw [HE.out]; exact .inl rfl)) _) HE.out fun _ hk => .inl hk)⟩
   · have Hp := Lib.hid (show E.sync0 f = (E.settle f (E.file f).1, 0) by simp [Dsk.sync0, h1, h2])
     clear h1
     go_enter Tryz.func56, Tryz.ntmps56
     go_wp2_with fail
     refine HC.out.mono ?_
     rintro e w1 ⟨rfl, h1⟩
     obtain ⟨F1, i1, k1⟩ := h1.ref
     have hm := rmay_c i1 f
     rw [H1.out] at hm
     have HM := Lib.hid hm
     have HG := Lib.hid (rget_c i1 f)
     have I1 := Lib.hid i1
     obtain ⟨x, i2, _⟩ := i1
     have c2 := i2.cells.2.2.1
     have HL := Lib.hid (i2.ok.lens f)
     have K1 := Lib.hid k1
     clear hm i2 k1 h1
     go_wp2_with fail
     refine HM.out.mono ?_
     rintro e w' ⟨rfl, rfl⟩
     go_wp2_with fail
     refine HG.out.mono ?_
     rintro e w2 ⟨rfl, hB⟩
     have O2 := Lib.hid (Only.of_below (F := NoF) hB (Nat.le_refl _))
     have HS := Lib.hid (rsettle_c (I1.out.only O2.out fun _ _ h => h) f (E.file f).1 HZ.out.2.1 HZ.out.2.2 HL.out.1)
     clear hB
     go_wp2_with fail
     refine HS.out.mono ?_
     rintro e w3 ⟨rfl, h3⟩
     have R3 := Lib.hid (K1.out _ _ (RefTo.trans (O2.out.mono fun _ h => h.elim) (fun _ hk => .inl hk) (fun _ hk => .inl hk) h3))
     clear h3
     go_wp2_with fail
     go_ret
     rw [Hp.out]
     exact ⟨rfl, R3.out⟩
 · have Hp := Lib.hid (show E.sync0 f = (E, E.may f) by simp [Dsk.sync0, h1])
   have h2 : (E.may f != 0) = true := by simp [h1]
   clear h1
   go_enter Tryz.func56, Tryz.ntmps56
   go_wp2_with fail
   refine HC.out.mono ?_
   rintro e w1 ⟨rfl, h1⟩
   obtain ⟨F1, i1, k1⟩ := h1.ref
   have HM := Lib.hid (rmay_c i1 f)
   have R1 := Lib.hid h1
   clear i1 k1 h1
   go_wp2_with fail
   refine HM.out.mono ?_
   rintro e w' ⟨rfl, rfl⟩
   go_wp2_with fail
   go_ret
   rw [Hp.out]
   exact ⟨rfl, R1.out⟩
theorem rTruncate_c (h : IsRef w b D F) (f size : Int) (hsz : I64 size) :
 Calls Tryz.prog 61 #[.pointer (some ⟨b, 0, none⟩), .int .i64 f, .int .i64 size] w fun e w' => e = .returned (.int .i64 (D.truncate f size).2) ∧ RefTo w b F (D.truncate f size).1 w' := by
 have hc := rcomes_c h 0 0 [] (by unfold I64; omega) (by simp)
 rw [comes_tock] at hc
 unfold Dsk.truncate
 generalize D.tock = E at hc
 have HC := Lib.hid hc
 clear h hc
 by_cases h1 : E.may f = 0
 · have H1 := Lib.hid h1
   have HZ := Lib.hid (Dsk.may_zero h1)
   by_cases h2 : size < 0 ∨ ((E.file f).1.length : Int) < size
   · have Hp := Lib.hid (show E.truncate0 f size = (E, 1) by simp [Dsk.truncate0, h1, h2])
     have h3 : size < 0 ∨ (0 ≤ size ∧ ((E.file f).1.length : Int) < size) := by omega
     clear h1 h2
     rcases h3 with h3 | ⟨h3, h4⟩
     all_goals
      go_enter Tryz.func61, Tryz.ntmps61
      go_wp2_with fail
      refine HC.out.mono ?_
      rintro e w1 ⟨rfl, h1⟩
      obtain ⟨F1, i1, k1⟩ := h1.ref
      have hm := rmay_c i1 f
      rw [H1.out] at hm
      have HM := Lib.hid hm
      have HG := Lib.hid (rget_c i1 f)
      have R1 := Lib.hid h1
      clear hm i1 k1 h1
      go_wp2_with fail
      refine HM.out.mono ?_
      rintro e w' ⟨rfl, rfl⟩
      go_wp2_with fail
      refine HG.out.mono ?_
      rintro e w2 ⟨rfl, hB⟩
      have O2 := Lib.hid (Only.of_below (F := NoF) hB (Nat.le_refl _))
      clear hB
      go_wp2_with fail
      go_ret
      rw [Hp.out]
      exact ⟨rfl, R1.out.more O2.out⟩
   · have Hp := Lib.hid (show E.truncate0 f size = (E.settle f ((E.file f).1.take size.toNat), 0) by simp [Dsk.truncate0, h1, h2])
     have h3 : 0 ≤ size := by omega
     have h4 : size ≤ ((E.file f).1.length : Int) := by omega
     clear h1 h2
     go_enter Tryz.func61, Tryz.ntmps61
     go_wp2_with fail
     refine HC.out.mono ?_
     rintro e w1 ⟨rfl, h1⟩
     obtain ⟨F1, i1, k1⟩ := h1.ref
     have hm := rmay_c i1 f
     rw [H1.out] at hm
     have HM := Lib.hid hm
     have HG := Lib.hid (rget_c i1 f)
     have I1 := Lib.hid i1
     obtain ⟨x, i2, _⟩ := i1
     have HL := Lib.hid (i2.ok.lens f)
     have K1 := Lib.hid k1
     clear hm i2 k1 h1
     go_wp2_with fail
     refine HM.out.mono ?_
     rintro e w' ⟨rfl, rfl⟩
     go_wp2_with fail
     refine HG.out.mono ?_
     rintro e w2 ⟨rfl, hB⟩
     have O2 := Lib.hid (Only.of_below (F := NoF) hB (Nat.le_refl _))
     have HS := Lib.hid (rsettle_c (I1.out.only O2.out fun _ _ h => h) f ((E.file f).1.take size.toNat) HZ.out.2.1 HZ.out.2.2 (by have := HL.out.1; simp; omega))
     clear hB
     go_wp2_with fail
     refine HS.out.mono ?_
     rintro e w3 ⟨rfl, h3⟩
     have R3 := Lib.hid (K1.out _ _ (RefTo.trans (O2.out.mono fun _ h => h.elim) (fun _ hk => .inl hk) (fun _ hk => .inl hk) h3))
     clear h3
     go_wp2_with fail
     go_ret
     rw [Hp.out]
     exact ⟨rfl, R3.out⟩
 · have Hp := Lib.hid (show E.truncate0 f size = (E, E.may f) by simp [Dsk.truncate0, h1])
   have h2 : (E.may f != 0) = true := by simp [h1]
   clear h1
   go_enter Tryz.func61, Tryz.ntmps61
   go_wp2_with fail
   refine HC.out.mono ?_
   rintro e w1 ⟨rfl, h1⟩
   obtain ⟨F1, i1, k1⟩ := h1.ref
   have HM := Lib.hid (rmay_c i1 f)
   have R1 := Lib.hid h1
   clear i1 k1 h1
   go_wp2_with fail
   refine HM.out.mono ?_
   rintro e w' ⟨rfl, rfl⟩
   go_wp2_with fail
   go_ret
   rw [Hp.out]
   exact ⟨rfl, R1.out⟩
end
end
end Go.Proofs.YtdegmpigkgkafaaGreatDoor
