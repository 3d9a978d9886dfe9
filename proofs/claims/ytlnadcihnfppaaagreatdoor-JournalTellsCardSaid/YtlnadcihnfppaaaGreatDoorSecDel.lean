/-
  What settle hands to the library: the two tests, slices.IndexFunc, slices.DeleteFunc, maps.DeleteFunc at the sectors. No condition.
-/
import Derived.Test.YtlnadcihnfppaaaGreatDoorMapR
import Derived.Test.YtlnadcihnfppaaaGreatDoorDskRep
import Derived.Test.YtlnadcihnfppaaaGreatDoorClone
namespace Go.Proofs.YtlnadcihnfppaaaGreatDoor
set_option linter.unusedVariables false
set_option linter.unusedSimpArgs false
set_option linter.unusedSectionVars false
set_option maxRecDepth 20000
open Go.RowKit

section
variable {w : World}

theorem zeroSec (w : World) : (zeroValue 76).run Tryz.prog w = .ok (.agg #[.int .i64 0, .int .i64 0]) w := by kernel_rfl

set_option maxHeartbeats 400000 in
theorem dsettle1_c (w : World) (p : Int × Int) (f : Int) (g : Nat) (hg : w.cell? ⟨g, 0, none⟩ = some (.int .i64 f)) :
    Calls Tryz.prog 70 #[keyS p, .pointer (some ⟨g, 0, none⟩)] w fun e w' => e = .returned (.bool (p.1 == f)) ∧ Below w.heap.size w w' := by
  have hlt : g < w.heap.size := World.block_lt_of_cell? w _ hg
  have hne : ¬ w.heap.size = g := by omega
  go_enter Tryz.func70, Tryz.ntmps70
  go_wp2
  go_ret
  exact ⟨rfl, (Below.refl _ _).alloc (Nat.le_refl _) _⟩

set_option maxHeartbeats 400000 in
theorem dsettle2_c (w : World) (p : Int × Int) (v : Bool) (f : Int) (g : Nat) (hg : w.cell? ⟨g, 0, none⟩ = some (.int .i64 f)) :
    Calls Tryz.prog 72 #[keyS p, .bool v, .pointer (some ⟨g, 0, none⟩)] w fun e w' => e = .returned (.bool (p.1 == f)) ∧ Below w.heap.size w w' := by
  have hlt : g < w.heap.size := World.block_lt_of_cell? w _ hg
  have hne : ¬ w.heap.size = g := by omega
  go_enter Tryz.func72, Tryz.ntmps72
  go_wp2
  go_ret
  exact ⟨rfl, (Below.refl _ _).alloc (Nat.le_refl _) _⟩

theorem secCells_cons (p : Int × Int) (q : List (Int × Int)) : secCells (p :: q) = .int .i64 p.1 :: .int .i64 p.2 :: secCells q := rfl
theorem secCells_get : ∀ (q : List (Int × Int)) (j : Nat) (hj : j < q.length), (secCells q)[j * 2]? = some (.int .i64 q[j].1) ∧ (secCells q)[j * 2 + 1]? = some (.int .i64 q[j].2)
  | [], j, hj => by simp at hj
  | p :: q, 0, _ => ⟨rfl, rfl⟩
  | p :: q, j + 1, hj => by
    have := secCells_get q j (by simpa using hj)
    rw [secCells_cons, show (j + 1) * 2 = j * 2 + 1 + 1 by omega]
    simpa using this

set_option maxHeartbeats 400000 in
theorem idxFSec_c (w : World) (S : Nat → Prop) (A : Option Addr) (cap : Nat) (q : List (Int × Int)) (hr : Reads w S 2 A q.length (secCells q)) (f : Int) (g : Nat) (hg : w.cell? ⟨g, 0, none⟩ = some (.int .i64 f)) (hn : q.length ≤ 100000000) :
    Calls Tryz.prog 84 #[.slice A q.length cap, .func (.func 70) #[] #[.pointer (some ⟨g, 0, none⟩)]] w
      fun e w' => (∃ i : Int, e = .returned (.int .i64 i) ∧ ((i = -1 ∧ ∀ p ∈ q, (p.1 == f) = false) ∨ ∃ k : Nat, i = k ∧ (∃ x, q[k]? = some x ∧ (x.1 == f) = true) ∧ ∀ p ∈ q.take k, (p.1 == f) = false)) ∧ Below w.heap.size w w' := by
  rcases Nat.eq_zero_or_pos q.length with h0 | h0
  · have hq := Lib.hid (List.eq_nil_of_length_eq_zero h0)
    rw [h0]
    clear hr
    go_enter Tryz.func84, Tryz.ntmps84
    go_wp2
    refine wp_loop_rounds 1 ?_
    rw [rounds_succ]
    go_wp2
    go_ret
    exact ⟨⟨_, rfl, .inl ⟨rfl, by rw [hq.out]; simp⟩⟩, Below.refl _ _⟩
  · obtain ⟨b, off, rfl, hS, hb, hc⟩ := hr.form h0 (by decide)
    have hC := Lib.hid hc
    clear hc hr
    go_enter Tryz.func84, Tryz.ntmps84
    go_wp2
    go_loopw [8] (fun v wr => ∃ j : Nat, j ≤ q.length ∧ v = .int .i64 (j : Int) ∧ (∀ p ∈ q.take j, (p.1 == f) = false) ∧ Below w.heap.size w wr) (fun v _ => q.length - (intOf v).toNat)
    case atStart => exact ⟨0, by omega, by go_num, by simp, Below.refl _ _⟩
    case round =>
      obtain ⟨j, hj, rfl, hp, hB⟩ := hrel
      by_cases hlt : j < q.length
      · obtain ⟨c1, c2⟩ := secCells_get q j hlt
        have d1 := (hB.cell (p := ⟨b, off + j * 2, none⟩) hb).trans (hC.out _ _ c1)
        have d2 := (hB.cell (p := ⟨b, off + j * 2 + 1, none⟩) hb).trans (hC.out _ _ c2)
        have hc := dsettle1_c wr q[j] f g ((hB.cell (p := ⟨g, 0, none⟩) (World.block_lt_of_cell? w _ hg)).trans hg)
        cases hb : (q[j].1 == f) <;> rw [hb] at hc
        · go_wp2_with (go_at_call 70; refine hc.mono ?_; rintro e w2 ⟨rfl, hB2⟩)
          go_roundw
          case rel =>
            refine ⟨j + 1, by omega, by go_num, fun p hm => ?_, hB.trans (hB2.mono hB.size)⟩
            rw [List.take_add_one, List.getElem?_eq_getElem hlt] at hm
            rcases List.mem_append.1 hm with hm | hm
            · exact hp p hm
            · simp at hm; rw [hm]; exact hb
          case measure => simp [intOf]; omega
        · go_wp2_with (go_at_call 70; refine hc.mono ?_; rintro e w2 ⟨rfl, hB2⟩)
          go_ret
          exact ⟨⟨_, rfl, .inr ⟨j, rfl, ⟨_, List.getElem?_eq_getElem hlt, hb⟩, hp⟩⟩, hB.trans (hB2.mono hB.size)⟩
      · go_wp2
        go_ret
        exact ⟨⟨_, rfl, .inl ⟨rfl, by rw [List.take_of_length_le (by omega)] at hp; exact hp⟩⟩, hB⟩

theorem setRow_blk {w : World} {g : Nat} {t : TypeId} {cs cs' : Array Value} (h : Blk w g t cs) : Blk (w.setRow g cs') g t cs' := setRow_heap w g cs cs' t _ h
theorem setRow_only {F : Nat → Prop} {a b : World} (h : Only F a b) {g : Nat} (hg : F g ∨ a.heap.size ≤ g) (cs : Array Value) : Only F a (b.setRow g cs) :=
  ⟨h.os, h.tape, h.output, by simpa [World.setRow] using h.size, fun i hi hn => by
    have hne : g ≠ i := by
      rintro rfl
      rcases hg with hg | hg
      · exact hn hg
      · omega
    have : (b.setRow g cs).heap[i]? = b.heap[i]? := by
      simp only [World.setRow, Array.getElem?_modify, hne, if_false]
    exact this.trans (h.block i hi hn)⟩

/-- 'clear' of a part of a block -/
theorem run_clear_blk {P : Program} {t e : TypeId} {z : Value} (ht : P.underlying t = some (.slice e)) (hv : ∀ w, (zeroValue e).run P w = .ok z w) (h1 : ∀ u ∈ z.cells, u.oneCell' = true) {g : Nat} {e' : TypeId} {cs : List Value} (hb : Blk w g e' cs.toArray) (o n c : Nat) (hl : o + n * z.cells.size ≤ cs.length) (hn : 0 < n) :
    ∃ cs' : List Value, (∀ ty, (Builtin.clear_ #[t] ty #[.slice (some ⟨g, o, none⟩) n c]).run P w = .ok (.tuple #[]) (w.setRow g cs'.toArray)) ∧ cs'.length = cs.length ∧ cs'.take o = cs.take o := by
  have hz : (Builtin.zeroCells z.cells n).toList.length = n * z.cells.size := by simp [Builtin.zeroCells]
  have h := run_storeCells_at (P := P) g o e' (Builtin.zeroCells z.cells n).toList 0 cs.toArray w hb (by rw [hz]; simpa using hl) (fun u hu => by
    simp only [Builtin.zeroCells, Array.toList_map, List.mem_map] at hu
    obtain ⟨i, hi, rfl⟩ := hu
    rcases Nat.eq_zero_or_pos z.cells.size with h0 | h0
    · simp [h0] at hi
    · have hlt : i % z.cells.size < z.cells.size := Nat.mod_lt _ h0
      rw [getElem!_pos z.cells _ hlt]
      exact h1 _ (Array.getElem_mem hlt))
  refine ⟨List.take (o + 0) cs ++ (Builtin.zeroCells z.cells n).toList ++ List.drop (o + 0 + (Builtin.zeroCells z.cells n).toList.length) cs, ?_, ?_, ?_⟩
  · intro ty
    obtain ⟨m, rfl⟩ : ∃ m, n = m + 1 := ⟨n - 1, by omega⟩
    unfold Builtin.clear_
    simp only [List.getElem?_toArray, List.getElem?_cons_zero, Sem.run_bind, run_underlying ht, Result.andThen_ok, hv, h, Sem.run_pure]
  · simp only [List.length_append, List.length_take, List.length_drop, hz]
    omega
  · rw [Nat.add_zero, List.append_assoc, List.take_append_of_le_length (by simp; omega), List.take_take, Nat.min_self]

def keepP (f : Int) (p : Int × Int) : Bool := !(p.1 == f)

/-- the row in the making: i kept, j looked at -/
structure DelRow (w : World) (g : Nat) (N : Nat) (q : List (Int × Int)) (f : Int) (i j : Nat) (cs : List Value) : Prop where
  blk : Blk w g 76 cs.toArray
  len : cs.length = N
  cap : q.length * 2 ≤ N
  ij : i ≤ j
  jn : j ≤ q.length
  cnt : ((q.take j).filter (keepP f)).length = i
  done : cs.take (2 * i) = secCells ((q.take j).filter (keepP f))
  rest : ∀ (k : Nat) (u : Value), 2 * j ≤ k → (secCells q)[k]? = some u → cs[k]? = some u

theorem length_secCells (q : List (Int × Int)) : (secCells q).length = 2 * q.length := by
  induction q with
  | nil => rfl
  | cons p q ih => rw [secCells_cons]; simp [ih]; omega
theorem secCells_take (q : List (Int × Int)) : ∀ k, secCells (q.take k) = (secCells q).take (2 * k) := by
  induction q with
  | nil => intro k; simp [secCells]
  | cons p q ih =>
    intro k
    cases k with
    | zero => rfl
    | succ k => rw [List.take_succ_cons, secCells_cons, secCells_cons, ih, show 2 * (k + 1) = 2 * k + 1 + 1 by omega]; rfl
theorem secCells_append (q q' : List (Int × Int)) : secCells (q ++ q') = secCells q ++ secCells q' := by simp [secCells]
theorem take_succ_getD {α : Type} (q : List α) (j : Nat) (hj : j < q.length) : q.take (j + 1) = q.take j ++ [q[j]] := by
  rw [List.take_add_one, List.getElem?_eq_getElem hj]; rfl
theorem filter_take_succ (p : Int × Int → Bool) (q : List (Int × Int)) (j : Nat) (hj : j < q.length) : (q.take (j + 1)).filter p = (q.take j).filter p ++ if p q[j] then [q[j]] else [] := by
  rw [take_succ_getD q j hj, List.filter_append]
  congr 1
  by_cases h : p q[j] = true
  · rw [if_pos h, List.filter_cons, if_pos h]; rfl
  · rw [if_neg h, List.filter_cons, if_neg h]; rfl

theorem DelRow.cells {g N : Nat} {q : List (Int × Int)} {f : Int} {i j : Nat} {cs : List Value} (h : DelRow w g N q f i j cs) (hj : j < q.length) : w.cell? ⟨g, j * 2, none⟩ = some (.int .i64 q[j].1) ∧ w.cell? ⟨g, j * 2 + 1, none⟩ = some (.int .i64 q[j].2) := by
  obtain ⟨c1, c2⟩ := secCells_get q j hj
  exact ⟨(h.blk.cell _).trans (by simpa using h.rest _ _ (by omega) c1), (h.blk.cell _).trans (by simpa using h.rest _ _ (by omega) c2)⟩
theorem DelRow.drop {g N : Nat} {q : List (Int × Int)} {f : Int} {i j : Nat} {cs : List Value} (h : DelRow w g N q f i j cs) (hj : j < q.length) (hk : keepP f q[j] = false) : DelRow w g N q f i (j + 1) cs :=
  { h with ij := by have := h.ij; omega, jn := by omega, cnt := by rw [filter_take_succ _ q j hj, hk]; simp [h.cnt], done := by rw [h.done, filter_take_succ _ q j hj, hk]; simp, rest := fun k u hk hu => h.rest k u (by omega) hu }
theorem DelRow.keep_ {g N : Nat} {q : List (Int × Int)} {f : Int} {i j : Nat} {cs : List Value} (h : DelRow w g N q f i j cs) (hj : j < q.length) (hk : keepP f q[j] = true) {w' : World}
    (hb : Blk w' g 76 ((cs.toArray.setIfInBounds (i * 2) (.int .i64 q[j].1)).setIfInBounds (i * 2 + 1) (.int .i64 q[j].2))) : DelRow w' g N q f (i + 1) (j + 1) ((cs.set (i * 2) (.int .i64 q[j].1)).set (i * 2 + 1) (.int .i64 q[j].2)) := by
  have h1 := h.ij
  have h2 := h.cap
  have h3 := h.len
  exact {
    blk := by simpa using hb
    len := by simpa using h.len
    cap := h.cap
    ij := by omega
    jn := by omega
    cnt := by rw [filter_take_succ _ q j hj, hk]; simp [h.cnt]
    done := by
      rw [filter_take_succ _ q j hj, hk, if_pos rfl, secCells_append, ← h.done]
      apply List.ext_getElem
      · simp [secCells]; omega
      · intro k h4 h5
        simp only [List.getElem_take, List.getElem_set]
        simp only [List.length_take, List.length_set] at h4
        by_cases h6 : k < 2 * i
        · rw [if_neg (by omega), if_neg (by omega), List.getElem_append_left (by simp; omega), List.getElem_take]
        · rw [List.getElem_append_right (by simp; omega)]
          simp only [secCells_cons, List.length_take]
          have h7 : k = i * 2 ∨ k = i * 2 + 1 := by omega
          rcases h7 with h7 | h7
          · subst h7
            rw [if_neg (by omega), if_pos rfl]
            have : i * 2 - min (2 * i) cs.length = 0 := by omega
            simp [this]
          · subst h7
            rw [if_pos rfl]
            have : i * 2 + 1 - min (2 * i) cs.length = 1 := by omega
            simp [this]
    rest := fun k u hk hu => by
      rw [List.getElem?_set_ne (by omega), List.getElem?_set_ne (by omega)]
      exact h.rest k u (by omega) hu }

set_option maxHeartbeats 1000000 in
theorem delFSec_c (w : World) (v : Value) (q : List (Int × Int)) (hq : w.ownsRow 0 76 2 v q.length (secCells q)) (f : Int) (gf : Nat) (hg : w.cell? ⟨gf, 0, none⟩ = some (.int .i64 f)) (hn : q.length ≤ 100000000) (hne : v.ownBlock ≠ some gf) :
    Calls Tryz.prog 69 #[v, .func (.func 70) #[] #[.pointer (some ⟨gf, 0, none⟩)]] w
      fun e w' => ∃ A c, e = .returned (.slice A (q.filter (keepP f)).length c) ∧ w'.ownsRow 0 76 2 (.slice A (q.filter (keepP f)).length c) (q.filter (keepP f)).length (secCells (q.filter (keepP f))) ∧ (Value.slice A (q.filter (keepP f)).length c).ownBlock = v.ownBlock ∧ Only (fun k => v.ownBlock = some k) w w' := by
  obtain ⟨A, cap, rfl, hc1, hc2, hr⟩ := Reads.of_own hq
  have hi := idxFSec_c w _ A cap q hr f gf hg hn
  by_cases hall : ∀ p ∈ q, (p.1 == f) = false
  · have hfe : q.filter (keepP f) = q := List.filter_eq_self.2 fun p hp => by simp [keepP, hall p hp]
    have Hq := Lib.hid hq
    rw [hfe]
    clear hr hq
    go_enter Tryz.func69, Tryz.ntmps69
    have hi2 := hi.mono (R' := fun e w' => e = .returned (.int .i64 (-1)) ∧ Below w.heap.size w w') (by
      rintro e w1 ⟨⟨i, rfl, hcase⟩, hB⟩
      rcases hcase with ⟨rfl, _⟩ | ⟨k, _, ⟨x, hx, hx2⟩, _⟩
      · exact ⟨rfl, hB⟩
      · have := hall x (List.mem_of_getElem? hx)
        rw [this] at hx2; cases hx2)
    clear hi
    go_wp2_with (go_at_call 84; refine hi2.mono ?_; rintro e w1 ⟨rfl, hB⟩)
    go_ret
    exact ⟨A, cap, rfl, own_only Hq.out (Only.of_below (F := NoF) hB (Nat.le_refl _)) fun _ _ h => h, rfl, Only.of_below hB (Nat.le_refl _)⟩
  · obtain ⟨k, hk, hk2, hk3⟩ : ∃ k, ∃ hk : k < q.length, (q[k].1 == f) = true ∧ ∀ p ∈ q.take k, (p.1 == f) = false := by
      have key : ∀ (l : List (Int × Int)), (¬ ∀ p ∈ l, (p.1 == f) = false) → ∃ k, ∃ hk : k < l.length, (l[k].1 == f) = true ∧ ∀ p ∈ l.take k, (p.1 == f) = false := by
        intro l
        induction l with
        | nil => intro h; exact absurd (by simp) h
        | cons x l ih =>
          intro h
          cases hx : (x.1 == f) with
          | true => exact ⟨0, by simp, hx, by simp⟩
          | false =>
            obtain ⟨k, hk, h1, h2⟩ := ih fun h' => h fun p hp => by
              rcases List.mem_cons.1 hp with rfl | hp
              · exact hx
              · exact h' p hp
            refine ⟨k + 1, by simpa using hk, by simpa using h1, fun p hp => ?_⟩
            rw [List.take_succ_cons] at hp
            rcases List.mem_cons.1 hp with rfl | hp
            · exact hx
            · exact h2 p hp
      exact key q hall
    have hi2 := hi.mono (R' := fun e w' => e = .returned (.int .i64 (k : Int)) ∧ Below w.heap.size w w') (by
      rintro e w1 ⟨⟨i, rfl, hcase⟩, hB⟩
      rcases hcase with ⟨_, h⟩ | ⟨k', rfl, ⟨x, hx, hx2⟩, h⟩
      · have := h _ (List.getElem_mem hk)
        rw [this] at hk2; cases hk2
      · refine ⟨?_, hB⟩
        have : k = k' := by
          rcases Nat.lt_trichotomy k k' with h1 | h1 | h1
          · have := h q[k] (by rw [List.mem_take_iff_getElem]; exact ⟨k, by omega, rfl⟩)
            rw [this] at hk2; cases hk2
          · exact h1
          · have := hk3 x (by
              obtain ⟨h2, rfl⟩ := List.getElem?_eq_some_iff.1 hx
              rw [List.mem_take_iff_getElem]; exact ⟨k', by omega, rfl⟩)
            rw [this] at hx2; cases hx2
        rw [this])
    clear hi
    rcases hq.2 with ⟨e, h0⟩ | ⟨g, cap', cur, e, _, hgb, hnc, hcm, hcs, ht⟩
    · omega
    obtain ⟨rfl, rfl⟩ : A = some ⟨g, 0, none⟩ ∧ cap = cap' := by simpa using e
    have hgf : ¬ g = gf := fun e => hne (by simp [Value.ownBlock, e])
    have HR : DelRow w g (cap * 2) q f k (k + 1) cur.toList := {
      blk := hgb
      len := by simp [hcs]
      cap := by omega
      ij := by omega
      jn := by omega
      cnt := by
        rw [filter_take_succ _ q k hk, show keepP f q[k] = false by simp [keepP, hk2], List.filter_eq_self.2 fun p hp => by simp [keepP, hk3 p hp]]
        simp; omega
      done := by
        rw [filter_take_succ _ q k hk, show keepP f q[k] = false by simp [keepP, hk2], List.filter_eq_self.2 fun p hp => by simp [keepP, hk3 p hp]]
        simp only [Bool.false_eq_true, if_false, List.append_nil]
        rw [secCells_take, ← ht, List.take_take]
        congr 1
        omega
      rest := fun k u hk hu => by
        rw [← ht, List.getElem?_take] at hu
        split at hu
        · exact hu
        · cases hu }
    have hkn : ((k : Int) == -1) = false := by
      have : (k : Int) ≠ -1 := by omega
      simp [this]
    have HR0 := Lib.hid HR
    have Hk := Lib.hid hk3
    have Hq := Lib.hid hq
    clear HR hq ht hgb hr e hk3
    go_enter Tryz.func69, Tryz.ntmps69
    go_wp2_with (go_at_call 84; refine hi2.mono ?_; rintro e w1 ⟨rfl, hB⟩; have HB1 := Lib.hid hB)
    go_loopw [5, 6] (fun v5 v6 wr => ∃ (i j : Nat) (cs : List Value), v5 = .int .i64 (i : Int) ∧ v6 = .int .i64 (j : Int) ∧ DelRow wr g (cap * 2) q f i j cs ∧ i < j ∧ Only (fun k => k = g) w wr) (fun _ v6 _ => q.length - (intOf v6).toNat)
    case atStart => exact ⟨k, k + 1, cur.toList, by go_num, by go_num, { HR0.out with blk := HR0.out.blk.below HB1.out HR0.out.blk.lt }, by omega, Only.of_below HB1.out (Nat.le_refl _)⟩
    case round =>
      obtain ⟨i, j, cs, rfl, rfl, hD, hin, hO⟩ := hrel
      have HD := Lib.hid hD
      have HO := Lib.hid hO
      have hj := hD.jn
      have hgl := hD.blk.lt
      clear hD hO
      by_cases hlt : j < q.length
      · obtain ⟨c1, c2⟩ := HD.out.cells hlt
        have hne2 : ¬ wr.heap.size = g := by omega
        have hgfc := HO.out.cell (p := ⟨gf, 0, none⟩) (World.block_lt_of_cell? w _ hg) (fun e => hgf e.symm)
        have hcl := dsettle1_c (wr.alloc (.cells #[.int .i64 q[j].1, .int .i64 q[j].2] 76)) q[j] f gf (by rw [World.cell?_alloc_lt _ _ _ (World.block_lt_of_cell? _ _ (hgfc.trans hg))]; exact hgfc.trans hg)
        cases hb : (q[j].1 == f) <;> rw [hb] at hcl
        · have h1 := HD.out.ij
          have h2 := HD.out.cap
          have h3 := HD.out.len
          go_wp2_with (go_at_call 70; refine hcl.mono ?_; rintro e w2 ⟨rfl, hB2⟩; have hP := (Blk.new wr 76 #[.int .i64 q[j].1, .int .i64 q[j].2]).below hB2 (by simp); have p0 := hP.cell 0; have p1 := hP.cell 1; have HG := Lib.hid ((HD.out.blk.alloc (.cells #[.int .i64 q[j].1, .int .i64 q[j].2] 76)).below hB2 (by simp; omega)); have i0 := (HG.out.cell (i * 2)).trans (Array.getElem?_eq_getElem (show i * 2 < cs.toArray.size by simp; omega)); have i1 := (HG.out.cell (i * 2 + 1)).trans (Array.getElem?_eq_getElem (show i * 2 + 1 < cs.toArray.size by simp; omega)); have z0 := HG.out.frozen (i * 2); have z1 := HG.out.frozen (i * 2 + 1); have HB2 := Lib.hid hB2; clear hP hB2)
          go_roundw
          case rel =>
            have hk : keepP f q[j] = true := by simp [keepP, hb]
            exact ⟨i + 1, j + 1, _, by go_num, by go_num, HD.out.keep_ hlt hk ((HG.out.set_ (i * 2) _).set_ (i * 2 + 1) _), by omega, ((((HO.out.alloc _).trans' (Only.of_below HB2.out (Nat.le_refl _))).setCell (.inl rfl) _).setCell (.inl rfl) _)⟩
          case measure => simp [intOf]; omega
        · go_wp2_with (go_at_call 70; refine hcl.mono ?_; rintro e w2 ⟨rfl, hB2⟩; have HB2 := Lib.hid hB2; clear hB2)
          go_roundw
          case rel =>
            have hk : keepP f q[j] = false := by simp [keepP, hb]
            exact ⟨i, j + 1, cs, by go_num, by go_num, ({ HD.out with blk := ((HD.out.blk.alloc (.cells #[.int .i64 q[j].1, .int .i64 q[j].2] 76)).below HB2.out (by simp; omega)) } : DelRow _ g (cap * 2) q f i j cs).drop hlt hk, by omega, ((HO.out.alloc _).trans' (Only.of_below HB2.out (Nat.le_refl _)))⟩
          case measure => simp [intOf]; omega
      · have h1 := HD.out.ij
        have h2 := HD.out.cap
        have h3 := HD.out.len
        have hcnt := HD.out.cnt
        rw [List.take_of_length_le (by omega)] at hcnt
        obtain ⟨ti, hti, hz0, hz1, hz2⟩ := info_parts info_Sec
        obtain ⟨cs', hcl, hl', ht'⟩ := run_clear_blk (P := Tryz.prog) Tryz.underlying58 (fun w => zeroSec w) (by decide) HD.out.blk (i * 2) (q.length - i) (cap - i) (by show i * 2 + (q.length - i) * 2 ≤ cs.length; omega) (by omega)
        have hci : ¬ cap = i := by omega
        have HB' := Lib.hid (setRow_blk (cs' := cs'.toArray) HD.out.blk)
        have HL := Lib.hid (And.intro hl' ht')
        clear hl' ht' hti hz0 hz1 hz2
        have hown : (wr.setRow g cs'.toArray).ownsRow 0 76 2 (.slice (some ⟨g, 0, none⟩) i cap) i (secCells (q.filter (keepP f))) := by
          refine ⟨by rw [length_secCells, hcnt]; omega, .inr ⟨g, cap, cs'.toArray, rfl, Nat.zero_le _, HB'.out, by omega, hcm, by simp [HL.out.1]; omega, ?_⟩⟩
          have hd := HD.out.done
          rw [List.take_of_length_le (l := q) (by omega), Nat.mul_comm] at hd
          rw [← hd, ← HL.out.2]
        go_wp2
        go_ret
        rw [hcnt]
        exact ⟨_, _, rfl, hown, rfl, setRow_only (HO.out.mono fun k hk => by simp [Value.ownBlock, hk]) (.inl (by simp [Value.ownBlock])) _⟩
end
end Go.Proofs.YtlnadcihnfppaaaGreatDoor
