/-
  Gossip: honest houses: what they know, as it lies in memory, and the plain law for it. No condition.
-/
import Derived.Test.YtdcbjedkddgfkaaDoorGoL
import Derived.Test.YtdcbjedkddgfkaaDoorGpH
namespace Go.Proofs.YtdcbjedkddgfkaaDoor
set_option linter.unusedVariables false
set_option linter.unusedSimpArgs false
set_option linter.unusedSectionVars false
open Go.RowKit
/-- a row of lists of notes: headers only -/
def KRr : Row NR := ⟨1, fun m => [.slice m.A m.l.length m.c], fun _ => True, fun _ => rfl, by decide, fun x u hu => by
 simp at hu
 subst hu; rfl⟩
structure TM where
 h : Int
 f : Int
 d : Int
def KStp : Row TM := ⟨3, fun m => [.int .i64 m.h, .int .i64 m.f, .int .i64 m.d], fun m => I64 m.h ∧ I64 m.f ∧ I64 m.d, fun _ => rfl, by decide, fun x u hu => by
 simp at hu
 rcases hu with rfl | rfl | rfl <;> rfl⟩
def SKr (F : Nat → Prop) (w : World) (k : Nat) : Prop := ¬ F k ∧ k < w.heap.size
def KOk (F : Nat → Prop) (w : World) (KL : List NR) : Prop := ∀ r ∈ KL, NtS (SKr F w) w (.slice r.A r.l.length r.c) r.l
section
variable {F F' G : Nat → Prop} {w w' : World} {v : Value} {l : List NM} {KL : List NR} {x : NR} {q : Nat} {m : NM}
theorem SKr.mv (o : Only G w w') (k : Nat) (h : SKr F w k) : SKr F w' k := ⟨h.1, Nat.lt_of_lt_of_le h.2 (size_only o)⟩
theorem SKr.mvA (o : Only G w w') (hF : ∀ k, F' k → F k ∨ w.heap.size ≤ k) (k : Nat) (h : SKr F w k) : SKr F' w' k :=
 ⟨fun hf => (hF k hf).elim h.1 fun h2 => absurd h.2 (Nat.not_lt.2 h2), Nat.lt_of_lt_of_le h.2 (size_only o)⟩
theorem NtS.mv (h : NtS (SKr F w) w v l) (o : Only G w w') (hG : ∀ k, G k → F k) : NtS (SKr F w') w' v l := (h.only o fun k hk hg => hk.1 (hG k hg)).sup (SKr.mv o)
theorem NtS.mvA (h : NtS (SKr F w) w v l) (o : Only G w w') (hG : ∀ k, G k → F k) (hF : ∀ k, F' k → F k ∨ w.heap.size ≤ k) : NtS (SKr F' w') w' v l := (h.only o fun k hk hg => hk.1 (hG k hg)).sup (SKr.mvA o hF)
theorem KOk.mv (h : KOk F w KL) (o : Only G w w') (hG : ∀ k, G k → F k) : KOk F w' KL := fun r hr => (h r hr).mv o hG
theorem KOk.mvA (h : KOk F w KL) (o : Only G w w') (hG : ∀ k, G k → F k) (hF : ∀ k, F' k → F k ∨ w.heap.size ≤ k) : KOk F' w' KL := fun r hr => (h r hr).mvA o hG hF
theorem OkNs.mv (h : OkNs (SKr F w) w l) (o : Only G w w') (hG : ∀ k, G k → F k) : OkNs (SKr F w') w' l := (h.only o fun k hk hg => hk.1 (hG k hg)).sup (SKr.mv o)
theorem OkNs.mvA (h : OkNs (SKr F w) w l) (o : Only G w w') (hG : ∀ k, G k → F k) (hF : ∀ k, F' k → F k ∨ w.heap.size ≤ k) : OkNs (SKr F' w') w' l := (h.only o fun k hk hg => hk.1 (hG k hg)).sup (SKr.mvA o hF)
theorem okN.mv (h : okN (SKr F w) w m) (o : Only G w w') (hG : ∀ k, G k → F k) : okN (SKr F w') w' m := (h.only o fun k hk hg => hk.1 (hG k hg)).sup (SKr.mv o)
theorem KOk.set (h : KOk F w KL) (hx : NtS (SKr F w) w (.slice x.A x.l.length x.c) x.l) : KOk F w (KL.set q x) := fun r hr => by
 rcases List.mem_or_eq_of_mem_set hr with h1 | h1
 · exact h r h1
 · rw [h1]; exact hx
theorem NtS.new {b : Nat} (hS : SliceOf (geB b) 5 KN0.R w v l) (hN : OkNs (geB b) w l) (hF : ∀ k, F k → k < b) : NtS (SKr F w) w v l :=
 (NtS.lt hS hN).sup fun k hk => ⟨fun hf => absurd (hF k hf) (Nat.not_lt.2 hk.1), hk.2⟩
theorem okN.new {b : Nat} (h : okN (geB b) w m) (hF : ∀ k, F k → k < b) : okN (SKr F w) w m :=
 h.lt3.sup fun k hk => ⟨fun hf => absurd (hF k hf) (Nat.not_lt.2 hk.1), hk.2⟩
def FK (vK vD vA : Value) (k : Nat) : Prop := ownF vK k ∨ ownF vD k ∨ ownF vA k
theorem FK.k {vK vD vA : Value} (k : Nat) (h : ownF vK k) : FK vK vD vA k := .inl h
theorem FK.d {vK vD vA : Value} (k : Nat) (h : ownF vD k) : FK vK vD vA k := .inr (.inl h)
theorem FK.a {vK vD vA : Value} (k : Nat) (h : ownF vA k) : FK vK vD vA k := .inr (.inr h)
theorem FK.lt {vK vD vA : Value} {b : Nat} (h1 : ∀ k, ownF vK k → k < b) (h2 : ∀ k, ownF vD k → k < b) (h3 : ∀ k, ownF vA k → k < b) : ∀ k, FK vK vD vA k → k < b := fun k h => h.elim (h1 k) fun h => h.elim (h2 k) (h3 k)
theorem FK.ap {vK vD vA vA' : Value} {b : Nat} (h : ∀ k, ownF vA' k → ownF vA k ∨ b ≤ k) : ∀ k, FK vK vD vA' k → FK vK vD vA k ∨ b ≤ k := fun k hk =>
 hk.elim (fun h1 => .inl (.inl h1)) fun hk => hk.elim (fun h1 => .inl (.inr (.inl h1))) fun h1 => (h k h1).elim (fun h2 => .inl (.inr (.inr h2))) .inr
theorem KOk.start : KOk F w (List.replicate 8 ⟨none, [], 0⟩) := fun r hr => by
 rw [List.eq_of_mem_replicate hr]; exact NtS.nil
end
/-! ### the plain law, for what lies in memory -/
def kmap (KL : List NR) : List (List NM) := KL.map fun r => r.l.map ns
structure HonK (KL : List NR) (D : List Int) (L : List NM) (i : Nat) : Prop where
 h : Hon (kmap KL) D L i
 nd : ∀ r ∈ KL, (r.l.map ns).Nodup
section
variable {KL : List NR} {D : List Int} {L a P N : List NM} {i q f : Nat} {r s X : NR} {e e2 h : Int} {n : NM}
theorem kmap_get (hq : KL[q]? = some r) : (kmap KL)[q]? = some (r.l.map ns) := by
 unfold kmap
 rw [List.getElem?_map, hq]; rfl
theorem kmap_set : kmap (KL.set q X) = (kmap KL).set q (X.l.map ns) := List.map_set
theorem nd_set (hn : ∀ r ∈ KL, (r.l.map ns).Nodup) (hX : X.l.map ns = joinN N) : ∀ r ∈ KL.set q X, (r.l.map ns).Nodup := fun r hr => by
 rcases List.mem_or_eq_of_mem_set hr with h1 | h1
 · exact hn r h1
 · rw [h1, hX]; exact sorted_nodup (join_sorted N)
theorem honk_start : HonK (List.replicate 8 ⟨none, [], 0⟩) (List.replicate 8 0) (([] : List NM).map ns) 0 := by
 refine ⟨?_, fun r hr => ?_⟩
 · exact hon_start
 · rw [List.eq_of_mem_replicate hr]; exact List.nodup_nil
theorem honk_up (H : HonK KL D L i) : HonK KL D L (i + 1) := ⟨hon_up H.h, H.nd⟩
theorem honk_len (H : HonK KL D L i) (hi : i ≤ 30) (hq : KL[q]? = some r) : r.l.length ≤ 30 := by
 have h1 := sub_len (H.nd r (List.mem_of_getElem? hq)) (H.h.cl q _ (kmap_get hq)).s
 rw [List.length_map] at h1
 have := H.h.le
 omega
theorem honk_learn (H : HonK KL D L i) (hq : KL[q]? = some r) (hf : KL[f]? = some s) (hN : N.map ns = lessN (joinN s.l) (joinN r.l)) (hX : X.l.map ns = joinN (r.l ++ N)) : HonK (KL.set q X) D L i := by
 refine ⟨?_, nd_set H.nd hX⟩
 rw [kmap_set, hX, talk_a2 hN, ← join_map, List.map_append]
 exact hon_learn H.h (kmap_get hq) (kmap_get hf)
theorem seal_is (hP : P.map ns = pastOfN (joinN r.l) (q : Int)) : (⟨(q : Int), ((P.length : Nat) : Int), e2, none, wantsN (headsN (joinN r.l)), 0, [116]⟩ : NM) = sealN (q : Int) e2 (joinN (r.l.map ns)) := by
 unfold sealN
 rw [join_map, ← hP, List.length_map]
theorem honk_check (H : HonK KL D L i) (hi : i < 30) (hq : KL[q]? = some r) (hd : D[q]? = some e) (h8 : e ≤ e2 ∧ e2 ≤ e + 8) (hh : h = (q : Int)) (hP : P.map ns = pastOfN (joinN r.l) h) :
 check (P ++ [(⟨h, ((P.length : Nat) : Int), e2, none, wantsN (headsN (joinN r.l)), 0, [116]⟩ : NM)]) = 0 := by
 subst hh
 have h1 := (hon_seal H.h hi (kmap_get hq) hd h8 rfl).1
 rw [join_map, ← hP, ← join_map, ← seal_is hP] at h1
 rw [← check_ns, List.map_append]
 exact h1
theorem honk_seal (H : HonK KL D (a.map ns) i) (hi : i < 30) (hq : KL[q]? = some r) (hd : D[q]? = some e) (h8 : e ≤ e2 ∧ e2 ≤ e + 8) (hh : h = (q : Int)) (hP : P.map ns = pastOfN (joinN r.l) h) {A : Option Addr} {c : Nat}
 (hX : X.l.map ns = joinN (r.l ++ [(⟨h, ((P.length : Nat) : Int), e2, A, wantsN (headsN (joinN r.l)), c, [116]⟩ : NM)])) :
 HonK (KL.set q X) (D.set q e2) ((a ++ [(⟨h, ((P.length : Nat) : Int), e2, A, wantsN (headsN (joinN r.l)), c, [116]⟩ : NM)]).map ns) (i + 1) := by
 subst hh
 refine ⟨?_, nd_set H.nd hX⟩
 have h1 := (hon_seal H.h hi (kmap_get hq) hd h8 (seal_is hP)).2.2.2
 rw [kmap_set, hX, ← join_map, List.map_append, List.map_append]
 exact h1
theorem honk_past (H : HonK KL D L i) (hi : i ≤ 30) (hq : KL[q]? = some r) (hP : P.map ns = pastOfN (joinN r.l) h) : P.length ≤ 30 := by
 have hp := hon_part H.h hi (kmap_get hq)
 have h1 := congrArg List.length hP
 rw [List.length_map, ← join_map, past_is hp] at h1
 have h2 := next_len (h := h) hp
 have := H.h.le
 omega
theorem honk_wants (H : HonK KL D L i) (hi : i ≤ 30) (hq : KL[q]? = some r) : (wantsN (headsN (joinN r.l))).length ≤ 8 := by
 have hp := hon_part H.h hi (kmap_get hq)
 have := wants_8 hp
 rwa [join_map] at this
end
theorem tm9 (d : Int) : -8 ≤ Int.tmod d 9 ∧ Int.tmod d 9 ≤ 8 := by
 have h1 := Int.tmod_lt_of_pos d (show (0 : Int) < 9 by decide)
 have h2 := Int.lt_tmod_of_pos d (show (0 : Int) < 9 by decide)
 omega
theorem tm9b (d : Int) : 0 ≤ Int.tmod (Int.tmod d 9 + 9) 9 ∧ Int.tmod (Int.tmod d 9 + 9) 9 ≤ 8 := by
 have h0 := tm9 d
 have h1 := Int.tmod_lt_of_pos (Int.tmod d 9 + 9) (show (0 : Int) < 9 by decide)
 have h2 := Int.tmod_nonneg (a := Int.tmod d 9 + 9) 9 (by omega)
 omega
end Go.Proofs.YtdcbjedkddgfkaaDoor
