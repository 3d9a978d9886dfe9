/-
  slices.BinarySearchFunc of pairs and the link's find, walked. Condition: the row ascends.
-/
import Derived.Test.YtocbfobakmieoaaLkW10
namespace Go.Proofs.Ytocbfobakmieoaa
set_option linter.unusedVariables false
set_option linter.unusedSimpArgs false
set_option linter.unusedSectionVars false
open Go.RowKit

namespace Lnk
theorem posC_split {c : Pr} {l : List Pr} {i : Nat} (hi : i ≤ l.length) (h1 : ∀ t (h : t < l.length), t < i → lt l[t] c = true) (h2 : ∀ t (h : t < l.length), i ≤ t → lt l[t] c = false) : posC c l = i := by
  have e : l = l.take i ++ l.drop i := (List.take_append_drop i l).symm
  unfold posC
  rw [e, List.takeWhile_append_of_pos]
  · have : (l.drop i).takeWhile (fun q => lt q c) = [] := by
      cases hd : l.drop i with
      | nil => rfl
      | cons x r =>
        have hlt : i < l.length := by
          rcases Nat.lt_or_ge i l.length with h | h
          · exact h
          · rw [List.drop_eq_nil_of_le h] at hd; cases hd
        have hx : x = l[i] := by
          rw [List.drop_eq_getElem_cons hlt] at hd
          exact (List.cons.inj hd).1.symm
        rw [List.takeWhile_cons, hx, h2 i hlt (Nat.le_refl _)]
        rfl
    rw [this]
    simp
    omega
  · intro q hq
    obtain ⟨t, ht, rfl⟩ := List.getElem_of_mem hq
    simp only [List.length_take] at ht
    rw [List.getElem_take]
    exact h1 t (by omega) (by omega)
theorem sorted_mono {l : List Pr} (hs : sorted l = true) {c : Pr} : ∀ {s t : Nat} (hs' : s ≤ t) (h : t < l.length), lt l[t] c = true → lt l[s] c = true := by
  intro s t hst h hl
  rcases Nat.lt_or_ge s t with h' | h'
  · exact lt_trans (List.pairwise_iff_getElem.1 (sorted_pairwise hs) s t (by omega) h h') hl
  · obtain rfl : s = t := by omega
    exact hl
theorem mem_pos {l : List Pr} (hs : sorted l = true) {c : Pr} {i : Nat} (hi : posC c l = i) : decide (c ∈ l) = (if h : i < l.length then decide (l[i] = c) else false) := by
  rw [Bool.eq_iff_iff]
  constructor
  · intro h
    obtain ⟨t, ht, e⟩ := List.getElem_of_mem (of_decide_eq_true h)
    have hp := sorted_pairwise hs
    have : posC c l = t := posC_split (by omega) (fun s h1 h2 => by rw [← e]; exact List.pairwise_iff_getElem.1 hp s t h1 ht h2) (fun s h1 h2 => by
      rcases Nat.lt_or_ge t s with h' | h'
      · have := List.pairwise_iff_getElem.1 hp t s ht h1 h'
        rw [e] at this
        exact lt_asymm this
      · obtain rfl : s = t := by omega
        rw [e]; exact lt_irrefl c)
    obtain rfl : t = i := by omega
    rw [dif_pos ht]
    exact decide_eq_true e
  · intro h
    split at h
    · rename_i hl
      have e : l[i] = c := by simpa using h
      exact decide_eq_true (by rw [← e]; exact List.getElem_mem hl)
    · cases h
end Lnk
theorem beforeI_eq (p q : Pr) : (beforeI p q == 0) = decide (p = q) := by
  obtain ⟨a, b⟩ := p
  obtain ⟨c, d⟩ := q
  rw [Bool.eq_iff_iff]
  simp only [beforeI, orI, cmpI, beq_iff_eq, decide_eq_true_eq, Pr.mk.injEq]
  rcases Int.lt_trichotomy a c with h | h | h <;> rcases Int.lt_trichotomy b d with k | k | k <;> simp [h, k] <;> omega

section
variable {w : World} {v : Value}
def FindTo (w : World) (i : Nat) (b : Bool) (e : Ending) (w' : World) : Prop := e = .returned (.tuple #[.int .i64 (i : Int), .bool b]) ∧ Only NoF w w'
set_option maxRecDepth 100000 in
set_option maxHeartbeats 1000000 in
theorem bsPr_c {l : List Pr} (h : Prs w v l) (hs : Lnk.sorted l = true) (hl : l.length ≤ 1000000) (p : Pr) : Calls Try.prog 56 #[v, prV p, .func (.func 52) #[] #[]] w (FindTo w (Lnk.posC p l) (decide (p ∈ l))) := by
  obtain ⟨A, cap, rfl, h1, h2, hf⟩ := Prs.form h
  have HF := Lib.hid hf
  have HS := Lib.hid hs
  clear hf h hs
  unfold maxLen at h2
  go_enter Try.func56, Try.ntmps56
  go_wp2
  go_loopw [9, 10] (fun i j wr => ∃ a b : Nat, a ≤ b ∧ b ≤ l.length ∧ i = .int .i64 (a : Int) ∧ j = .int .i64 (b : Int) ∧ (∀ t (h : t < l.length), t < a → Lnk.lt l[t] p = true) ∧ (∀ t (h : t < l.length), b ≤ t → Lnk.lt l[t] p = false) ∧ Only NoF w wr ∧ Blk wr w.heap.size 60 #[.int .i64 p.x, .int .i64 p.y]) (fun i j _ => (intOf j).toNat - (intOf i).toNat)
  case atStart => exact ⟨0, l.length, by omega, by omega, by go_num, by go_num, (fun t h h2 => by omega), (fun t h h2 => by omega), (Only.refl _ _).alloc _, Blk.new w _ _⟩
  case round =>
    obtain ⟨a, b, hab, hbl, rfl, rfl, ha, hb, hO, hK⟩ := hrel
    have HA := Lib.hid ha
    have HB := Lib.hid hb
    obtain ⟨x0, x1, _, _⟩ := hK.two
    have HK := Lib.hid hK
    have hlK := hK.lt
    clear ha hb hK
    by_cases hlt : a < b
    · have hh : ((a : Int) + (b : Int)) / 2 = (((a + b) / 2 : Nat) : Int) := by omega
      obtain ⟨m, hm⟩ : ∃ m, (a + b) / 2 = m := ⟨_, rfl⟩
      rw [hm] at hh
      have hm1 : a ≤ m := by omega
      have hm2 : m < b := by omega
      have hml : m < l.length := by omega
      obtain ⟨g, off, rfl, _, _, hc⟩ := HF.out m hml
      obtain ⟨c0, c1⟩ := hc wr hO
      have ks : ∀ W, Only NoF wr.drew W → W.cell? ⟨w.heap.size, 0, none⟩ = some (.int .i64 p.x) ∧ W.cell? ⟨w.heap.size, 1, none⟩ = some (.int .i64 p.y) ∧ W.cell? ⟨g, off + m * 2, none⟩ = some (.int .i64 l[m].x) ∧ W.cell? ⟨g, off + m * 2 + 1, none⟩ = some (.int .i64 l[m].y) := fun W o =>
        ⟨(HK.out.drew.keep o).two.1, (HK.out.drew.keep o).two.2.1, hc W (hO.drew.trans' o)⟩
      have KS := Lib.hid ks
      clear hc ks
      have j1 : (0 : Int) ≤ (m : Int) := by omega
      have j2 : (m : Int) < (l.length : Int) := by omega
      have hbf := beforeI_lt l[m] p
      cases hlp : Lnk.lt l[m] p with
      | true =>
        have hbi : decide (beforeI l[m] p < 0) = true := by rw [hlp] at hbf; simp at hbf; simpa using hbf
        clear hbf
        have HLP := Lib.hid hlp
        clear hlp
        go_wp2_with fail
        go_region_held3 (fun W => W.cell? ⟨w.heap.size, 0, none⟩ = some (.int .i64 p.x) ∧ W.cell? ⟨w.heap.size, 1, none⟩ = some (.int .i64 p.y) ∧ W.cell? ⟨g, off + m * 2, none⟩ = some (.int .i64 l[m].x) ∧ W.cell? ⟨g, off + m * 2 + 1, none⟩ = some (.int .i64 l[m].y))
          (first | go_keep | exact K2.out)
          (first | (go_at_call 52; refine (nbefore_c _ _ _).mono ?_; rintro e w2 ⟨rfl, o2⟩; have K2 := Lib.hid (KS.out _ o2)))
        go_wp2
        go_roundw
        case rel =>
          refine ⟨m + 1, b, by omega, hbl, by go_num, rfl, fun t h h2 => Lnk.sorted_mono HS.out (by omega) hml HLP.out, HB.out, hO.drew.trans' o2, HK.out.drew.keep o2⟩
        case measure => simp [intOf]; omega
      | false =>
        have hbi : decide (beforeI l[m] p < 0) = false := by rw [hlp] at hbf; simp at hbf; simpa using hbf
        clear hbf
        have HLP := Lib.hid hlp
        clear hlp
        go_wp2_with fail
        go_region_held3 (fun W => W.cell? ⟨w.heap.size, 0, none⟩ = some (.int .i64 p.x) ∧ W.cell? ⟨w.heap.size, 1, none⟩ = some (.int .i64 p.y) ∧ W.cell? ⟨g, off + m * 2, none⟩ = some (.int .i64 l[m].x) ∧ W.cell? ⟨g, off + m * 2 + 1, none⟩ = some (.int .i64 l[m].y))
          (first | go_keep | exact K2.out)
          (first | (go_at_call 52; refine (nbefore_c _ _ _).mono ?_; rintro e w2 ⟨rfl, o2⟩; have K2 := Lib.hid (KS.out _ o2)))
        go_wp2
        go_roundw
        case rel =>
          refine ⟨a, m, hm1, by omega, rfl, rfl, HA.out, fun t h h2 => ?_, hO.drew.trans' o2, HK.out.drew.keep o2⟩
          cases hx : Lnk.lt l[t] p with
          | false => rfl
          | true => rw [Lnk.sorted_mono HS.out h2 h hx] at HLP; exact absurd HLP.out (by decide)
        case measure => simp [intOf]; omega
    · obtain rfl : a = b := by omega
      have hpos := Lnk.posC_split (c := p) (l := l) hbl HA.out HB.out
      have hmem := Lnk.mem_pos HS.out hpos
      have HPOS := Lib.hid hpos
      have HMEM := Lib.hid hmem
      clear hmem hpos
      by_cases hal : a < l.length
      · rw [dif_pos hal] at HMEM
        obtain ⟨g, off, rfl, _, _, hc⟩ := HF.out a hal
        obtain ⟨c0, c1⟩ := hc wr hO
        have ks : ∀ W, Only NoF wr.drew W → W.cell? ⟨w.heap.size, 0, none⟩ = some (.int .i64 p.x) ∧ W.cell? ⟨w.heap.size, 1, none⟩ = some (.int .i64 p.y) ∧ W.cell? ⟨g, off + a * 2, none⟩ = some (.int .i64 l[a].x) ∧ W.cell? ⟨g, off + a * 2 + 1, none⟩ = some (.int .i64 l[a].y) := fun W o =>
          ⟨(HK.out.drew.keep o).two.1, (HK.out.drew.keep o).two.2.1, hc W (hO.drew.trans' o)⟩
        have KS := Lib.hid ks
        clear hc ks
        have j1 : (0 : Int) ≤ (a : Int) := by omega
        have j2 : (a : Int) < (l.length : Int) := by omega
        have hbq := beforeI_eq l[a] p
        go_wp2_with fail
        go_region_held3 (fun W => W.cell? ⟨w.heap.size, 0, none⟩ = some (.int .i64 p.x) ∧ W.cell? ⟨w.heap.size, 1, none⟩ = some (.int .i64 p.y) ∧ W.cell? ⟨g, off + a * 2, none⟩ = some (.int .i64 l[a].x) ∧ W.cell? ⟨g, off + a * 2 + 1, none⟩ = some (.int .i64 l[a].y))
          (first | go_keep | exact K2.out)
          (first | (go_at_call 52; refine (nbefore_c _ _ _).mono ?_; rintro e w2 ⟨rfl, o2⟩; have K2 := Lib.hid (KS.out _ o2)))
        go_wp2
        go_ret2
        exact ⟨by rw [HPOS.out, HMEM.out]; rfl, hO.drew.trans' o2⟩
      · rw [dif_neg hal] at HMEM
        have j2 : ¬ (a : Int) < (l.length : Int) := by omega
        go_wp2_with fail
        go_quiet (fail)
        go_wp2
        go_ret2
        exact ⟨by rw [HPOS.out, HMEM.out]; rfl, hO.drewN _⟩

set_option maxRecDepth 100000 in
set_option maxHeartbeats 1000000 in
theorem nfind_c {a : Air} (h : AirV w v a) (hs : Lnk.sorted a.cs = true) (hf : Few_ a) (x y : Int) : Calls Try.prog 43 #[v, .int .i64 x, .int .i64 y] w (FindTo w (Lnk.posC (Lnk.pair x y) a.cs) (decide (Lnk.pair x y ∈ a.cs))) := by
  obtain ⟨v1, v2, rfl, hm0, hc0⟩ := h
  have HPR := Lib.hid hc0
  have HBS := Lib.hid (fun (W : World) (o : Only NoF w W) => bsPr_c (Prs.keep HPR.out o) hs hf.2 (Lnk.pair x y))
  clear hm0 hc0 hs hf
  have ks : ∀ W, Only NoF (w.alloc (.cells #[v1, v2] 25)).drew W → Only NoF w W ∧ W.cell? ⟨w.heap.size, 1, none⟩ = some v2 := fun W o =>
    ⟨((Only.refl NoF w).alloc _).drew.trans' o, ((Blk.new w 25 #[v1, v2]).drew.keep o).two.2.1⟩
  have KS := Lib.hid ks
  clear ks
  go_enter Try.func43, Try.ntmps43
  go_wp2_with fail
  go_region_held3 (fun W => W.cell? ⟨w.heap.size, 1, none⟩ = some v2)
    (first | go_keep | exact K2.out | exact K3.out)
    (first
      | (go_at_call 46; refine (npair_c _ _ _).mono ?_; rintro e w2 ⟨rfl, o2⟩; have O2 := Lib.hid o2; have K2 := Lib.hid (KS.out _ o2).2; clear o2)
      | (go_at_call 56; refine (HBS.out _ (KS.out _ O2.out).1).mono ?_; rintro e w3 ⟨rfl, o3⟩; have O3 := Lib.hid (O2.out.trans' o3); have K3 := Lib.hid (KS.out _ O3.out).2; clear o3))
  go_wp2
  go_ret2
  exact ⟨rfl, (KS.out _ O3.out).1⟩
end
end Go.Proofs.Ytocbfobakmieoaa
