/-
  The disk of chapter 2 as plain data: what each call makes of it. No condition: definitions and plain lemmas.
-/
import Derived.Test.YtdegmpigkgkafaaGreatDoorMem
namespace Go.Proofs.YtdegmpigkgkafaaGreatDoor
set_option linter.unusedVariables false
set_option linter.unusedSimpArgs false
set_option linter.unusedSectionVars false
/-- bytes put into a string at an offset -/
def put (s : Str) (at_ : Nat) (t : Str) : Str := if t = [] then s else s.take at_ ++ List.replicate (at_ - s.length) 0 ++ t ++ s.drop (at_ + t.length)
structure Dsk where
 file : Int → Str × Str
 queue : List (Int × Int)
 lost : Int
 down : Bool
 armed : Int
 keep : List Int
namespace Dsk
def init : Dsk := { file := fun _ => ([], []), queue := [], lost := 0, down := false, armed := 0, keep := [] }
def setFile (g : Int → Str × Str) (f : Int) (x : Str × Str) : Int → Str × Str := fun i => if i = f then x else g i
def may (D : Dsk) (f : Int) : Int := if D.down then 8 else if f < 0 ∨ 16 ≤ f then 1 else 0
/-- the sectors of 'len' bytes from 'at_' on -/
def secs (at_ len : Nat) : List Int := (List.range ((at_ + len - 1) / 64 + 1 - at_ / 64)).map fun i => ((at_ / 64 + i : Nat) : Int)
def push (q : List (Int × Int)) (p : Int × Int) : List (Int × Int) := if p ∈ q then q else q ++ [p]
def pushAll (q : List (Int × Int)) (f : Int) (ns : List Int) : List (Int × Int) := ns.foldl (fun q n => push q (f, n)) q
/-- a write that is possible -/
def add (D : Dsk) (f : Int) (at_ : Nat) (s : Str) : Dsk :=
 if s = [] then D else { D with file := setFile D.file f (put (D.file f).1 at_ s, (D.file f).2), queue := pushAll D.queue f (secs at_ s.length) }
def fits (at_ : Int) (s : Str) : Prop := 0 ≤ at_ ∧ at_ ≤ 16777216 ∧ at_ + s.length ≤ 16777216
instance (at_ : Int) (s : Str) : Decidable (fits at_ s) := inferInstanceAs (Decidable (_ ∧ _ ∧ _))
/-- the write by itself: the disk, the error -/
def write0 (D : Dsk) (f at_ : Int) (s : Str) : Dsk × Int :=
 if D.may f ≠ 0 then (D, D.may f) else if at_ < 0 then (D, 1) else if ¬ fits at_ s then (D, 6) else (D.add f at_.toNat s, 0)
def survives (keep : List Int) (i : Nat) : Bool := keep ≠ [] ∧ (keep.getD (i % keep.length) 0) % 2 = 1
/-- the bytes of a sector that survives -/
def survive (g : Int → Str × Str) (p : Int × Int) : Int → Str × Str :=
 if (p.2 * 64).toNat < (g p.1).1.length then setFile g p.1 ((g p.1).1, put (g p.1).2 (p.2 * 64).toNat (((g p.1).1.drop (p.2 * 64).toNat).take 64)) else g
def crashF (keep : List Int) : Nat → List (Int × Int) → (Int → Str × Str) → (Int → Str × Str)
 | _, [], g => g
 | i, p :: q, g => crashF keep (i + 1) q (if survives keep i then survive g p else g)
def crash (D : Dsk) (keep : List Int) : Dsk :=
 if D.down then D else { D with file := fun f => ((crashF keep 0 D.queue D.file f).2, (crashF keep 0 D.queue D.file f).2), queue := [], down := true, armed := 0 }
/-- a call is counted: does the scheduled crash happen in it? -/
def ends (D : Dsk) : Bool := !(D.down || D.armed == 0) && D.armed - 1 == 0
def tick (D : Dsk) : Dsk := if D.down || D.armed == 0 then D else { D with armed := D.armed - 1 }
def settle (D : Dsk) (f : Int) (s : Str) : Dsk := { D with file := setFile D.file f (s, s), queue := D.queue.filter fun p => !(p.1 == f) }
def start (D : Dsk) : Dsk := { D with down := false }
def lose (D : Dsk) (n : Int) : Dsk := { D with lost := max n 0 }
def arm (D : Dsk) (n : Int) (keep : List Int) : Dsk := { D with armed := max n 0, keep := keep }
def size (D : Dsk) (f : Int) : Nat := (D.file f).1.length
def readS (s : Str) (at_ size : Nat) : Str := (s.drop at_).take size
def read (D : Dsk) (f at_ size : Int) : Str × Int :=
 if D.may f ≠ 0 then ([], D.may f) else if at_ < 0 ∨ size < 0 then ([], 1) else (readS (D.file f).1 at_.toNat size.toNat, 0)
def write (D : Dsk) (f at_ : Int) (s : Str) : Dsk × Int :=
 if D.ends then ((D.tick.write0 f at_ s).1.crash (D.tick.write0 f at_ s).1.keep, 8) else D.tick.write0 f at_ s
/-- tick, and the crash where it comes -/
def tock (D : Dsk) : Dsk := if D.ends then D.tick.crash D.keep else D.tick
def sync0 (D : Dsk) (f : Int) : Dsk × Int :=
 if D.may f ≠ 0 then (D, D.may f) else if 0 < D.lost then ({ D with lost := D.lost - 1 }, 9) else (D.settle f (D.file f).1, 0)
def sync (D : Dsk) (f : Int) : Dsk × Int := D.tock.sync0 f
def truncate0 (D : Dsk) (f size : Int) : Dsk × Int :=
 if D.may f ≠ 0 then (D, D.may f) else if size < 0 ∨ (D.file f).1.length < size then (D, 1) else (D.settle f ((D.file f).1.take size.toNat), 0)
def truncate (D : Dsk) (f size : Int) : Dsk × Int := D.tock.truncate0 f size
/-- what always holds -/
structure Ok (D : Dsk) : Prop where
 lens : ∀ f, (D.file f).1.length ≤ 16777216 ∧ (D.file f).2.length ≤ 16777216
 out : ∀ f, f < 0 ∨ 16 ≤ f → D.file f = ([], [])
 q : ∀ p ∈ D.queue, 0 ≤ p.1 ∧ p.1 < 16 ∧ 0 ≤ p.2 ∧ p.2 ≤ 262144
 nodup : D.queue.Nodup
 lost : 0 ≤ D.lost ∧ D.lost ≤ 9223372036854775807
 armed : 0 ≤ D.armed ∧ D.armed ≤ 9223372036854775807
 keep : D.keep.length ≤ 1000
end Dsk
theorem length_put (s : Str) (n : Nat) (t : Str) (h : t ≠ []) : (put s n t).length = max s.length (n + t.length) := by
 unfold put
 rw [if_neg h]
 simp only [List.length_append, List.length_take, List.length_replicate, List.length_drop]
 omega
theorem length_put_le (s : Str) (n : Nat) (t : Str) (m : Nat) (h1 : s.length ≤ m) (h2 : t ≠ [] → n + t.length ≤ m) : (put s n t).length ≤ m := by
 by_cases h : t = []
 · simp [put, h, h1]
 · rw [length_put s n t h]; have := h2 h; omega
/-- a list of different numbers below n has at most n of them -/
theorem nodup_length_le : ∀ (n : Nat) (l : List Nat), l.Nodup → (∀ x ∈ l, x < n) → l.length ≤ n
 | 0, l, _, h => by
  cases l with
  | nil => simp
  | cons x l => have := h x (by simp); omega
 | n + 1, l, hn, h => by
  have h1 : (l.filter (· != n)).length ≤ n := nodup_length_le n _ (hn.filter _) fun x hx => by
   have := h x ((List.mem_filter.1 hx).1)
   have h2 := (List.mem_filter.1 hx).2
   simp at h2
   omega
  have h3 : (l.filter (· == n)).length ≤ 1 := by
   have h4 := hn.filter (· == n)
   have h5 : ∀ x ∈ l.filter (· == n), x = n := fun x hx => by simpa using (List.mem_filter.1 hx).2
   generalize l.filter (· == n) = m at h4 h5
   match m, h4, h5 with
   | [], _, _ => simp
   | [_], _, _ => simp
   | x :: y :: m, h4, h5 =>
    exfalso
    have e1 := h5 x (by simp)
    have e2 := h5 y (by simp)
    simp [e1, e2] at h4
  have h6 : l.length = (l.filter (· == n)).length + (l.filter (· != n)).length := by
   clear hn h h1 h3
   induction l with
   | nil => rfl
   | cons x l ih =>
    simp only [List.filter_cons, List.length_cons]
    by_cases hx : x = n
    · simp [hx, ih]; omega
    · simp [hx, ih]; omega
  omega
theorem Dsk.Ok.qlen {D : Dsk} (h : D.Ok) : D.queue.length ≤ 4194320 := by
 have h1 : (D.queue.map fun p => (p.1 * 262145 + p.2).toNat).length ≤ 4194320 := by
  refine nodup_length_le _ _ ?_ ?_
  · have hq := h.q
    have hn := h.nodup
    generalize D.queue = q at hq hn
    induction q with
    | nil => simp
    | cons p q ih =>
     rw [List.nodup_cons] at hn
     simp only [List.map_cons, List.nodup_cons]
     refine ⟨fun hm => ?_, ih (fun p hp => hq p (by simp [hp])) hn.2⟩
     obtain ⟨p', hp', e⟩ := List.mem_map.1 hm
     have a := hq p (by simp)
     have b := hq p' (by simp [hp'])
     obtain ⟨x, y⟩ := p
     obtain ⟨x', y'⟩ := p'
     simp only at a b e
     have e1 : x' * 262145 + y' = x * 262145 + y := by omega
     have e2 : x' = x := by omega
     have e3 : y' = y := by omega
     subst e2; subst e3
     exact hn.1 hp'
  · intro x hx
    obtain ⟨p, hp, rfl⟩ := List.mem_map.1 hx
    have a := h.q p hp
    omega
 simpa using h1
theorem Dsk.Ok.start {D : Dsk} (h : D.Ok) : D.start.Ok := { h with }
theorem Dsk.Ok.lose {D : Dsk} (h : D.Ok) (n : Int) (hn : I64 n) : (D.lose n).Ok := { h with lost := by unfold I64 at hn; simp only [Dsk.lose]; omega }
theorem Dsk.Ok.tick {D : Dsk} (h : D.Ok) : D.tick.Ok := by
 unfold Dsk.tick
 split
 · exact h
 · rename_i hc
   simp at hc
   exact { h with armed := by have := h.armed; simp only; omega }
theorem Dsk.Ok.arm {D : Dsk} (h : D.Ok) (n : Int) (hn : I64 n) (keep : List Int) (hk : keep.length ≤ 1000) : (D.arm n keep).Ok := { h with armed := by unfold I64 at hn; simp only [Dsk.arm]; omega, keep := hk }
theorem readS_past (s : Str) (a n : Int) (h : (s.length : Int) < a) : ([] : Str) = Dsk.readS s a.toNat n.toNat := by
 simp [Dsk.readS, List.drop_eq_nil_of_le (show s.length ≤ a.toNat by omega)]
theorem readS_all (s : Str) (a n : Int) (h : ((s.length - a.toNat : Nat) : Int) < n) : (s.drop a.toNat).take (s.length - a.toNat) = Dsk.readS s a.toNat n.toNat := by
 unfold Dsk.readS
 rw [List.take_of_length_le (by simp), List.take_of_length_le (by simp; omega)]
theorem readS_some (s : Str) (a n : Int) : ((s.drop a.toNat).take (s.length - a.toNat)).take n.toNat = Dsk.readS s a.toNat n.toNat := by
 unfold Dsk.readS
 rw [List.take_of_length_le (l := s.drop a.toNat) (by simp)]
theorem Dsk.init_ok : Dsk.init.Ok := ⟨fun _ => by simp [Dsk.init], fun _ _ => rfl, by simp [Dsk.init], by simp [Dsk.init], by simp [Dsk.init], by simp [Dsk.init], by simp [Dsk.init]⟩
end Go.Proofs.YtdegmpigkgkafaaGreatDoor
