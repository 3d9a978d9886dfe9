/-
  The disk's crash.
-/
import Derived.Test.YtlnadcihnfppaaaGreatDoorDskW6
import Derived.Test.YtlnadcihnfppaaaGreatDoorBits
namespace Go.Proofs.YtlnadcihnfppaaaGreatDoor
set_option linter.unusedVariables false
set_option linter.unusedSimpArgs false
set_option linter.unusedSectionVars false
open Go.RowKit

attribute [local go_sem] MapAt_setCell MapAt.alloc MapAt_drew cell?_putMap MapAt_putMap size_putMap

section
variable {w : World} {b : Nat} {D : Dsk} {F : Foot}

theorem crashF_append (keep : List Int) (p : Int × Int) : ∀ (a : List (Int × Int)) (n : Nat) (g : Int → Str × Str), Dsk.crashF keep n (a ++ [p]) g = if Dsk.survives keep (n + a.length) then Dsk.survive (Dsk.crashF keep n a g) p else Dsk.crashF keep n a g
  | [], n, g => by simp [Dsk.crashF]
  | x :: a, n, g => by
    simp only [List.cons_append, Dsk.crashF, crashF_append keep p a (n + 1), List.length_cons]
    rw [show n + 1 + a.length = n + (a.length + 1) by omega]

/-- the disk after i sectors of a crash -/
def Dsk.crashing (D : Dsk) (keep : List Int) (i : Nat) : Dsk := { D with file := Dsk.crashF keep 0 (D.queue.take i) D.file, down := true, armed := 0 }
theorem Dsk.crashing_succ (D : Dsk) (keep : List Int) (i : Nat) (hi : i < D.queue.length) : D.crashing keep (i + 1) = { D.crashing keep i with file := if Dsk.survives keep i then Dsk.survive (D.crashing keep i).file D.queue[i] else (D.crashing keep i).file } := by
  unfold Dsk.crashing
  rw [take_succ_getD _ i hi, crashF_append]
  simp [Nat.min_eq_left (Nat.le_of_lt hi)]
theorem Dsk.Ok.crashing {D : Dsk} (h : D.Ok) (keep : List Int) (i : Nat) : (D.crashing keep i).Ok := by
  have := crashF_ok keep (D.queue.take i) 0 D.file h.lens h.out
  exact { h with lens := fun f => this.1 f, out := fun f hf => this.2 f hf, armed := by simp [Dsk.crashing] }

theorem Dsk.crashing_none (D : Dsk) (keep : List Int) (i : Nat) (hi : i < D.queue.length) (h : Dsk.survives keep i = false ∨ ((D.crashing keep i).file D.queue[i].1).1.length ≤ (D.queue[i].2 * 64).toNat) : D.crashing keep (i + 1) = D.crashing keep i := by
  rw [D.crashing_succ keep i hi]
  rcases h with h | h
  · simp [h]
  · have : Dsk.survive (D.crashing keep i).file D.queue[i] = (D.crashing keep i).file := by
      unfold Dsk.survive
      rw [if_neg (by omega)]
    simp [this]
theorem Dsk.crashing_some (D : Dsk) (keep : List Int) (i : Nat) (hi : i < D.queue.length) (h : Dsk.survives keep i = true) (h2 : (D.queue[i].2 * 64).toNat < ((D.crashing keep i).file D.queue[i].1).1.length) :
    D.crashing keep (i + 1) = { D.crashing keep i with file := Dsk.setFile (D.crashing keep i).file D.queue[i].1 (((D.crashing keep i).file D.queue[i].1).1, put ((D.crashing keep i).file D.queue[i].1).2 (D.queue[i].2 * 64).toNat ((((D.crashing keep i).file D.queue[i].1).1.drop (D.queue[i].2 * 64).toNat).take 64)) } := by
  rw [D.crashing_succ keep i hi, h, if_pos rfl]
  unfold Dsk.survive
  rw [if_pos h2]

theorem Reads.own {base : Nat} {e : TypeId} {size n c : Nat} {A : Option Addr} {xs : List Value} (h : w.ownsRow base e size (.slice A n c) n xs) : Reads w (fun k => (Value.slice A n c).ownBlock = some k) size A n xs := by
  obtain ⟨A', c', e, _, _, h⟩ := Reads.of_own h
  obtain ⟨rfl, rfl⟩ : A = A' ∧ c = c' := by simpa using e
  exact h

theorem IsDiskW.lookF {x : DWit} (h : IsDiskW w b D x) (f : Int) (W : World) (hW : MapAt keyI valF W x.mf x.fl x.fc) :
    (Instr.lookup 56 (.map (some x.mf)) (.int .i64 f) false).run Tryz.prog W = .ok (.agg #[strV (D.file f).1, strV (D.file f).2]) W := by
  have := run_lookup_assoc keyEqI Tryz.underlying56 (zeroFile W) hW f
  rw [this]
  have e := h.abs f
  cases ha : assoc f x.fl with
  | none => rw [ha] at e; simp at e; simp [← e]
  | some v => rw [ha] at e; simp at e; simp [← e]

/-- the files whose entries have come are what is durable -/
def lastL (l : List (Int × (Str × Str) × Nat)) (seen : Array Nat) : List (Int × (Str × Str) × Nat) := l.map fun x => if seen.contains x.2.2 then (x.1, (x.2.1.2, x.2.1.2), x.2.2) else x
theorem lastL_start (l : List (Int × (Str × Str) × Nat)) : lastL l #[] = l := by simp [lastL]
theorem lastL_keys (l : List (Int × (Str × Str) × Nat)) (seen : Array Nat) : (lastL l seen).map (·.1) = l.map (·.1) := by
  simp only [lastL, List.map_map]
  apply List.map_congr_left
  intro x _
  simp only [Function.comp]
  split <;> rfl
theorem lastL_born (l : List (Int × (Str × Str) × Nat)) (seen : Array Nat) : (lastL l seen).map (·.2.2) = l.map (·.2.2) := by
  simp only [lastL, List.map_map]
  apply List.map_congr_left
  intro x _
  simp only [Function.comp]
  split <;> rfl
theorem lastL_mem {l : List (Int × (Str × Str) × Nat)} {seen : Array Nat} {y : Int × (Str × Str) × Nat} (h : y ∈ leftL (lastL l seen) seen) : y ∈ l ∧ seen.contains y.2.2 = false := by
  obtain ⟨h1, h2⟩ := List.mem_filter.1 h
  obtain ⟨x, hx, rfl⟩ := List.mem_map.1 h1
  split at h2
  · simp_all
  · rename_i hc
    rw [if_neg hc]
    exact ⟨hx, by simpa using hc⟩
theorem aput_mem {κ β : Type} [DecidableEq κ] {k : κ} {v : β} {c : Nat} : ∀ {l : List (κ × β × Nat)}, (l.map (·.1)).Nodup → (assoc k l).isSome → aput k v c l = l.map fun x => if k = x.1 then (x.1, v, x.2.2) else x
  | [], _, h => by simp [assoc] at h
  | x :: l, hn, h => by
    rw [List.map_cons, List.nodup_cons] at hn
    by_cases hk : k = x.1
    · simp only [aput, hk, if_true, List.map_cons]
      congr 1
      symm
      have : l.map (fun y => if x.1 = y.1 then (y.1, v, y.2.2) else y) = l.map id := by
        apply List.map_congr_left
        intro y hy
        rw [if_neg]
        · rfl
        · intro e
          exact hn.1 (List.mem_map.2 ⟨y, hy, e.symm⟩)
      rw [this, List.map_id]
    · simp only [aput, hk, if_false, List.map_cons]
      congr 1
      refine aput_mem hn.2 ?_
      simpa [assoc, hk] using h
theorem assoc_of_mem {κ β : Type} [DecidableEq κ] : ∀ {l : List (κ × β × Nat)} {y : κ × β × Nat}, y ∈ l → (assoc y.1 l).isSome
  | x :: l, y, h => by
    unfold assoc
    split
    · rfl
    · rename_i hne
      rcases List.mem_cons.1 h with rfl | h
      · exact absurd rfl hne
      · exact assoc_of_mem h
theorem lastL_push {l : List (Int × (Str × Str) × Nat)} {c : Nat} {seen : Array Nat} {y : Int × (Str × Str) × Nat} (hE : Entries l c) (hy : y ∈ l) (hs : seen.contains y.2.2 = false) :
    aput y.1 (y.2.1.2, y.2.1.2) c (lastL l seen) = lastL l (seen.push y.2.2) ∧ (assoc y.1 (lastL l seen)).isSome = true := by
  have hm : (assoc y.1 (lastL l seen)).isSome = true := by
    have : y ∈ lastL l seen := List.mem_map.2 ⟨y, hy, by rw [hs]; rfl⟩
    exact assoc_of_mem this
  refine ⟨?_, hm⟩
  rw [aput_mem (by rw [lastL_keys]; exact hE.keys) hm]
  simp only [lastL, List.map_map]
  apply List.map_congr_left
  intro x hx
  simp only [Function.comp, Array.contains_push]
  by_cases he : x = y
  · subst he
    rw [hs]
    simp
  · have h1 : ¬ y.1 = x.1 := fun e => he (eq_of_nodup_map _ l hE.keys x hx y hy e.symm)
    have h2 : (x.2.2 == y.2.2) = false := by
      have : ¬ x.2.2 = y.2.2 := fun e => he (eq_of_nodup_map _ l hE.born x hx y hy e)
      simp [this]
    have h3 : (if seen.contains x.2.2 = true then (x.1, (x.2.1.2, x.2.1.2), x.2.2) else x).1 = x.1 := by split <;> rfl
    rw [h3, if_neg h1, h2, Bool.or_false]
theorem lastL_end {l : List (Int × (Str × Str) × Nat)} {seen : Array Nat} (h : leftL (lastL l seen) seen = []) : lastL l seen = l.map fun x => (x.1, (x.2.1.2, x.2.1.2), x.2.2) := by
  unfold lastL
  apply List.map_congr_left
  intro x hx
  cases hs : seen.contains x.2.2 with
  | true => simp
  | false =>
    exfalso
    have : x ∈ leftL (lastL l seen) seen := by
      unfold leftL
      rw [List.mem_filter]
      refine ⟨List.mem_map.2 ⟨x, hx, by rw [hs]; rfl⟩, by rw [hs]; rfl⟩
    rw [h] at this
    cases this
theorem assoc_map {κ β γ : Type} [DecidableEq κ] (g : β → γ) (k : κ) : ∀ (l : List (κ × β × Nat)), assoc k (l.map fun x => (x.1, g x.2.1, x.2.2)) = (assoc k l).map g
  | [] => rfl
  | x :: l => by
    simp only [List.map_cons, assoc]
    split
    · rfl
    · exact assoc_map g k l

/-- behind the loops: the queue and the set anew -/
theorem crash_fin {x : DWit} {W W5 : World} {D : Dsk} {seen : Array Nat} (h : IsDiskW W b D x) (ok : ({ D with file := fun f => ((D.file f).2, (D.file f).2), queue := [] } : Dsk).Ok) (hl : leftL (lastL x.fl seen) seen = []) (hm : MapAt keyI valF W5 x.mf (lastL x.fl seen) x.fc) (o5 : Only (fun k => k = x.mf) W W5) :
    IsDiskW (((W5.setCell ⟨b, 1, none⟩ (.slice none 0 0)).setCell ⟨b, 2, none⟩ (.map (some W5.heap.size))).alloc (.map #[] 0)) b { D with file := fun f => ((D.file f).2, (D.file f).2), queue := [] }
      { x with q := .slice none 0 0, ms := W5.heap.size, fl := lastL x.fl seen, sl := [], sc := 0 } := by
  obtain ⟨a1, a2, a3, a4, a5⟩ := h.apart
  have hb5 := h.blk.only o5 (Ne.symm a1)
  have hk5 := own_only h.kpo o5 fun k hk e => (a5 k hk).2.1 e
  have hbl := hb5.lt
  have hml := heap_lt hm
  have o6 : ∀ u v o, Only (oneF b) W5 (((W5.setCell ⟨b, 1, none⟩ u).setCell ⟨b, 2, none⟩ v).alloc o) := fun u v o => (((Only.refl (oneF b) _).setCell (p := ⟨b, 1, none⟩) (.inl rfl) u).setCell (p := ⟨b, 2, none⟩) (.inl rfl) v).alloc o
  exact {
    blk := ((hb5.set_ 1 _).set_ 2 _).alloc _
    fm := hm.only (o6 _ _ _) a1
    sm := at_new _ (.map #[] 0) _ (by simp [World.setCell])
    ne := by simp only; omega
    own := World.ownsRow_nil _ _ _ _
    kpo := own_only hk5 (o6 _ _ _) fun k hk e => (a5 k hk).1 e
    abs := fun f => by
      simp only
      rw [lastL_end hl, assoc_map (fun v : Str × Str => (v.2, v.2)) f x.fl]
      have := h.abs f
      cases ha : assoc f x.fl with
      | none => rw [ha] at this; simp at this; simp [← this]
      | some v => rw [ha] at this; simp at this; simp [← this]
    fent := by
      have h1 := lastL_keys x.fl seen
      have h2 := lastL_born x.fl seen
      exact ⟨by rw [h1]; exact h.fent.keys, by rw [h2]; exact h.fent.born, fun y hy => by
        obtain ⟨z, hz, rfl⟩ := List.mem_map.1 hy
        have := h.fent.lt z hz
        split <;> exact this⟩
    sent := ⟨by simp, by simp, by simp⟩
    fkey := fun y hy => by
      obtain ⟨z, hz, rfl⟩ := List.mem_map.1 hy
      have := h.fkey z hz
      split <;> exact this
    sset := by simp [assoc]
    ok := ok }
end
end Go.Proofs.YtlnadcihnfppaaaGreatDoor
