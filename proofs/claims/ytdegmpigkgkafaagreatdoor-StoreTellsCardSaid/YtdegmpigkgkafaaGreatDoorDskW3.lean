/-
  Bytes put into a string: the program's put and the reference's Put, walked. Conditions: lengths and offsets up to 2^24.
-/
import Derived.Test.YtdegmpigkgkafaaGreatDoorDskW2
import Derived.Test.YtdegmpigkgkafaaGreatDoorBytes
namespace Go.Proofs.YtdegmpigkgkafaaGreatDoor
set_option linter.unusedVariables false
set_option linter.unusedSimpArgs false
set_option linter.unusedSectionVars false
set_option maxRecDepth 20000
open Go.RowKit
theorem info_u8 : (Tryz.prog.info? 5).map (fun i => (i.zero, i.size, i.bytes)) = some (some (.int .u8 0), 1, 1) := by kernel_rfl
theorem size_u8 (w : World) : (sizeOf 5).run Tryz.prog w = .ok 1 w := by kernel_rfl
theorem put_nil (s : Str) (n : Nat) : put s n [] = s := by simp [put]
theorem put_list (s : Str) (n : Nat) (t : Str) (ht : t ≠ []) (j : Nat) : (put s n t)[j]? = if n ≤ j ∧ j < n + t.length then t[j - n]? else if j < s.length then s[j]? else if j < n then some 0 else none := by
 unfold put
 rw [if_neg ht]
 have h1 : (s.take n ++ List.replicate (n - s.length) (0 : UInt8)).length = n := by simp; omega
 by_cases hj : j < n
 · rw [List.append_assoc, List.getElem?_append_left (by omega), if_neg (by omega)]
   by_cases hs : j < s.length
   · rw [List.getElem?_append_left (by simp; omega), List.getElem?_take, if_pos hj, if_pos hs]
   · rw [List.getElem?_append_right (by simp; omega), List.getElem?_replicate, if_neg hs, if_pos hj, if_pos (by simp; omega)]
 · rw [List.append_assoc, List.getElem?_append_right (by omega), h1]
   by_cases hk : j < n + t.length
   · rw [List.getElem?_append_left (by omega), if_pos (by omega)]
   · rw [List.getElem?_append_right (by omega), List.getElem?_drop, if_neg (by omega), show n + t.length + (j - n - t.length) = j by omega]
     by_cases hs : j < s.length
     · rw [if_pos hs]
     · rw [if_neg hs, if_neg hj, List.getElem?_eq_none (by omega)]
theorem make_bytes (L : Int) (m : Nat) (hL : L = m) (hm : m ≤ 33554432) (W : World) :
 (Instr.makeSlice 116 (.int .i64 L) (.int .i64 L)).run Tryz.prog W = .ok (.slice (some ⟨W.heap.size, 0, none⟩) m m) (W.alloc (.cells (madeCells #[.int .u8 0] m) 5)) := by
 obtain ⟨i, hi, hz0, hz1, hz2⟩ := info_parts info_u8
 subst hL
 have := run_make (P := Tryz.prog) W 116 5 i _ Tryz.underlying116 hi hz0 .i64 .i64 (m : Int) (m : Int) (by omega) (by omega) (by rw [hz2]; omega) (by omega)
 rw [hz1] at this
 simpa [Value.cells] using this
/-- what copy(b, s) leaves -/
theorem put_first (s : Str) (m : Nat) (h : s.length ≤ m) : ∀ (j : Nat) (x : UInt8), (j < 0 ∨ 0 + s.length ≤ j) → (s ++ List.replicate (m - s.length) 0)[j]? = some x → (List.replicate m (0 : UInt8))[j]? = some x := by
 intro j x hj hx
 have hl := (List.getElem?_eq_some_iff.1 hx).1
 simp at hl
 rw [List.getElem?_append_right (by omega), List.getElem?_replicate] at hx
 rw [List.getElem?_replicate, if_pos (by omega)]
 split at hx
 · exact hx
 · cases hx
theorem put_second (s : Str) (n : Nat) (t : Str) (ht : t ≠ []) (m : Nat) (hm : m = max s.length (n + t.length)) : ∀ (j : Nat) (x : UInt8), (j < n ∨ n + t.length ≤ j) → (put s n t)[j]? = some x → (s ++ List.replicate (m - s.length) 0)[j]? = some x := by
 intro j x hj hx
 have hl := (List.getElem?_eq_some_iff.1 hx).1
 rw [length_put s n t ht] at hl
 rw [put_list s n t ht, if_neg (by omega)] at hx
 by_cases hs : j < s.length
 · rw [if_pos hs] at hx
   rw [List.getElem?_append_left hs]
   exact hx
 · rw [if_neg hs] at hx
   rw [List.getElem?_append_right (by omega), List.getElem?_replicate, if_pos (by omega)]
   split at hx
   · exact hx
   · cases hx
set_option maxHeartbeats 400000 in
theorem dput_c (w : World) (s t : Str) (n : Int) (h0 : 0 ≤ n) (h1 : n ≤ 16777216) (hs : s.length ≤ 16777216) (ht : t.length ≤ 16777216) :
 Calls Tryz.prog 35 #[strV s, .int .i64 n, strV t] w fun e w' => e = .returned (strV (put s n.toNat t)) ∧ Only NoF w w' := by
 by_cases hn : t = []
 · subst hn
   have Hp := Lib.hid (put_nil s n.toNat)
   go_enter Tryz.func35, Tryz.ntmps35
   go_wp2
   go_ret
   rw [Hp.out]
   exact ⟨rfl, Only.refl _ _⟩
 · obtain ⟨k, rfl⟩ : ∃ k : Nat, n = k := ⟨n.toNat, by omega⟩
   have hne : t.isEmpty = false := by simpa using hn
   obtain ⟨m, hm⟩ : ∃ m : Nat, m = max s.length (k + t.length) := ⟨_, rfl⟩
   have Hm := Lib.hid hm
   have hm1 : s.length ≤ m := by omega
   have hm2 : k + t.length ≤ m := by omega
   have hm3 : m ≤ 33554432 := by omega
   clear hm
   have hkm : ¬ m = k := by
    have : 0 < t.length := List.length_pos_iff.2 hn
    omega
   have hk0 : (0 : Int) ≤ (k : Int) := by omega
   have hk1 : (k : Int) ≤ (m : Int) := by omega
   have HL := Lib.hid (length_put s k t hn)
   have Hn := Lib.hid hn
   clear hn
   have Hrow := Lib.hid (byteRow_make w 5 m (by unfold maxLen; omega))
   by_cases hc : (s.length : Int) < (k : Int) + (t.length : Int)
   all_goals
    first
     | have hmk := make_bytes ((k : Int) + (t.length : Int)) m (by have := Hm.out; omega) (by omega)
     | have hmk := make_bytes (s.length : Int) m (by have := Hm.out; omega) (by omega)
    go_enter Tryz.func35, Tryz.ntmps35
    go_wp2_with (first
     | ((with_reducible refine wpList_copy_str (o := ⟨some 21, _, _, _, _, _⟩) rfl (.tmp 19) (.tmp 20) _ _ rfl 5 Tryz.underlying116 size_u8 (some ⟨w.heap.size, 0, none⟩) m m ?_ s ?_ w.heap.size 0 m _ (s ++ List.replicate (m - s.length) 0) Hrow.out (fun _ => rfl) hm1 (by omega) (by simp; omega) (fun j hj => by rw [Nat.zero_add, List.getElem?_append_left hj]) (put_first s m hm1) ?_); rfl; rfl; intro w1 hr1 ho1; have Hr1 := Lib.hid hr1; clear hr1)
     | ((with_reducible refine wpList_copy_str (o := ⟨some 26, _, _, _, _, _⟩) rfl (.tmp 24) (.tmp 25) _ _ rfl 5 Tryz.underlying116 size_u8 (some ⟨w.heap.size, k, none⟩) (m - k) (m - k) ?_ t ?_ w.heap.size k m _ (put s k t) Hr1.out (fun _ => rfl) (by omega) (by omega) (by rw [HL.out]; have := Hm.out; omega) (fun j hj => by rw [put_list s k t Hn.out, if_pos (by omega), Nat.add_sub_cancel_left]) (put_second s k t Hn.out m Hm.out) ?_); rfl; rfl; intro w2 hr2 ho2; have hcv := hr2.str (P := Tryz.prog) m Tryz.underlying116 Tryz.underlying5 Tryz.underlying9; rw [HL.out, ← Hm.out] at hcv; clear hr2))
    go_ret
    exact ⟨rfl, (((Only.refl NoF w).alloc _).trans ho1 fun i hi => .inr (by rw [hi]; exact Nat.le_refl _)).trans ho2 fun i hi => .inr (by rw [hi]; exact Nat.le_refl _)⟩
def lenV : Value → Nat | .slice _ n _ => n | _ => 0
/-- the first q bytes of t laid over l from k on -/
def spl (l : Str) (k : Nat) (t : Str) (q : Nat) : Str := l.take k ++ t.take q ++ l.drop (k + q)
theorem length_spl (l : Str) (k : Nat) (t : Str) (q : Nat) (hq : q ≤ t.length) (h : k + q ≤ l.length) : (spl l k t q).length = l.length := by simp [spl]; omega
theorem spl_zero (l : Str) (k : Nat) (t : Str) : spl l k t 0 = l := by simp [spl]
theorem spl_get (l : Str) (k : Nat) (t : Str) (q : Nat) (hq : q ≤ t.length) (h : k + q ≤ l.length) (j : Nat) : (spl l k t q)[j]? = if k ≤ j ∧ j < k + q then t[j - k]? else l[j]? := by
 unfold spl
 have h1 : (l.take k).length = k := by simp; omega
 have h2 : (t.take q).length = q := by simp; omega
 by_cases hj : j < k
 · rw [List.append_assoc, List.getElem?_append_left (by omega), List.getElem?_take, if_pos hj, if_neg (by omega)]
 · rw [List.append_assoc, List.getElem?_append_right (by omega), h1]
   by_cases hk : j < k + q
   · rw [List.getElem?_append_left (by omega), List.getElem?_take, if_pos (by omega), if_pos (by omega)]
   · rw [List.getElem?_append_right (by omega), h2, List.getElem?_drop, if_neg (by omega)]
     congr 1
     omega
theorem spl_put (s : Str) (k : Nat) (t : Str) (ht : t ≠ []) (n : Nat) (hn : s.length + n = max s.length (k + t.length)) : spl (s ++ List.replicate n 0) k t t.length = put s k t := by
 apply List.ext_getElem?
 intro j
 have hl : (s ++ List.replicate n (0 : UInt8)).length = s.length + n := by simp
 rw [spl_get _ _ _ _ (Nat.le_refl _) (by omega), put_list s k t ht]
 by_cases h1 : k ≤ j ∧ j < k + t.length
 · rw [if_pos h1, if_pos h1]
 · rw [if_neg h1, if_neg h1]
   by_cases h2 : j < s.length
   · rw [if_pos h2, List.getElem?_append_left h2]
   · rw [if_neg h2, List.getElem?_append_right (by omega), List.getElem?_replicate]
     by_cases h3 : j < k
     · rw [if_pos h3, if_pos (by omega)]
     · rw [if_neg h3, if_neg (by omega)]
theorem conv_str (W : World) (s : Str) (hs : s.length ≤ 16777216) : ∃ cap W', (convert 9 116 (strV s)).run Tryz.prog W = .ok (.slice (some ⟨W.heap.size, 0, none⟩) s.length cap) W' ∧ ByteRow W' W.heap.size cap s ∧ Only NoF W W' :=
 ⟨_, _, run_bytes_of_string W 9 116 5 ⟨s.toArray⟩ Tryz.underlying9 Tryz.underlying116 Tryz.underlying5, byteRow_of_str W 5 s (by unfold maxLen; omega), ((Only.refl NoF W).drew).alloc _⟩
/-- the first loop's relation -/
def Padded (w : World) (s : Str) (M : Nat) (b : Value) (wr : World) : Prop :=
 ∃ g cap n, b = .slice (some ⟨g, 0, none⟩) (s.length + n) cap ∧ ByteRow wr g cap (s ++ List.replicate n 0) ∧ s.length + n ≤ M ∧ Only NoF w wr ∧ w.heap.size ≤ g
/-- the second's -/
def Laid (w : World) (g cap : Nat) (l : Str) (k : Nat) (t : Str) (i : Value) (wr : World) : Prop :=
 ∃ q : Nat, q ≤ t.length ∧ i = .int .i64 q ∧ ByteRow wr g cap (spl l k t q) ∧ Only NoF w wr
theorem Padded.more {w wr w1 : World} {s : Str} {M g n g' cap' : Nat} {o : Obj} (ho : Only NoF w wr) (hg : w.heap.size ≤ g) (hr : ByteRow w1 g' cap' (s ++ List.replicate n 0 ++ [0])) (ho1 : Only (oneF g) (wr.alloc o) w1) (hg' : g' = g ∨ (wr.alloc o).heap.size ≤ g') (hM : s.length + n + 1 ≤ M) :
 Padded w s M (.slice (some ⟨g', 0, none⟩) (s.length + n + 1) cap') w1 :=
 ⟨g', cap', n + 1, rfl, by rw [List.append_assoc, ← List.replicate_succ'] at hr; exact hr, hM, (ho.alloc o).trans ho1 fun i hi => .inr (by rw [hi]; exact hg), by
  rcases hg' with rfl | h
  · exact hg
  · have := ho.size; simp at h; omega⟩
theorem Laid.more {w wr : World} {g cap k q : Nat} {l t : Str} (hr : ByteRow wr g cap (spl l k t q)) (ho : Only NoF w wr) (hg : w.heap.size ≤ g) (hq : q < t.length) (hk : k + t.length ≤ l.length) (i : Value) (hi : i = .int .i64 ((q + 1 : Nat) : Int)) :
 Laid w g cap l k t i (wr.setCell ⟨g, k + q, none⟩ (.int .u8 (t[q].toNat : Int))) := by
 have hl := length_spl l k t q (by omega) (by omega)
 have hl' := length_spl l k t (q + 1) (by omega) (by omega)
 have hle := hr.len
 refine ⟨q + 1, by omega, hi, ?_, ho.setCell (p := ⟨g, k + q, none⟩) (.inr hg) _⟩
 have := hr.store (k + q) [t[q]] (spl l k t (q + 1)) (by omega) (by simp; omega) (fun j hj => by
  simp at hj
  subst hj
  rw [spl_get l k t (q + 1) (by omega) (by omega), if_pos (by omega), show k + q + 0 - k = q by omega]
  simp [List.getElem?_eq_getElem hq]) (fun j x hj hx => by
  simp at hj
  rw [spl_get l k t (q + 1) (by omega) (by omega)] at hx
  rw [spl_get l k t q (by omega) (by omega)]
  by_cases h1 : k ≤ j ∧ j < k + q
  · rw [if_pos h1]; rw [if_pos (by omega)] at hx; exact hx
  · rw [if_neg h1]; rw [if_neg (by omega)] at hx; exact hx)
 exact this
set_option maxHeartbeats 1000000 in
theorem rPut_c (w : World) (s t : Str) (n : Int) (h0 : 0 ≤ n) (h1 : n ≤ 16777216) (hs : s.length ≤ 16777216) (ht : t.length ≤ 16777216) :
 Calls Tryz.prog 65 #[strV s, .int .i64 n, strV t] w fun e w' => e = .returned (strV (put s n.toNat t)) ∧ Only NoF w w' := by
 by_cases hn : t = []
 · subst hn
   have Hp := Lib.hid (put_nil s n.toNat)
   go_enter Tryz.func65, Tryz.ntmps65
   go_wp2
   go_ret
   rw [Hp.out]
   exact ⟨rfl, Only.refl _ _⟩
 · obtain ⟨k, rfl⟩ : ∃ k : Nat, n = k := ⟨n.toNat, by omega⟩
   have hne : t.isEmpty = false := by simpa using hn
   obtain ⟨cap, w1, hconv, hrow, honly⟩ := conv_str w s hs
   have Hn := Lib.hid hn
   clear hn
   obtain ⟨i, hi, hz0, hz1, hz2⟩ := info_parts info_u8
   go_enter Tryz.func65, Tryz.ntmps65
   go_wp2_with fail
   go_loopw [7] (fun b wr => Padded w s (max s.length (k + t.length)) b wr) (fun b _ => k + t.length - lenV b)
   case atStart => exact ⟨w.heap.size, cap, 0, rfl, by simpa using hrow, by simp; omega, honly, Nat.le_refl _⟩
   case round =>
    obtain ⟨g, cp, m, rfl, hr, hm, ho, hg⟩ := hrel
    clear hconv hrow honly
    by_cases hlt : s.length + m < k + t.length
    · have hl : (s ++ List.replicate m (0 : UInt8)).length = s.length + m := by simp
      go_wp2_with (at_builtin; refine wpList_append_byte rfl _ _ _ rfl 5 i Tryz.underlying116 hi hz0 hz1 hz2 g cp _ (hr.alloc _) (by rw [hl]; rfl) ⟨wr.heap.size, 0, none⟩ 1 (by rfl) 0 (by simp) (by omega) ?_; rw [hl]; intro g' cap' w2 hr2 ho2 hg2)
      go_roundw
      case rel => exact Padded.more ho hg hr2 ho2 hg2 (by omega)
      case measure => simp only [lenV]; omega
    · obtain ⟨L, hL⟩ : ∃ L, L = s ++ List.replicate m (0 : UInt8) := ⟨_, rfl⟩
      have hLl : L.length = s.length + m := by rw [hL]; simp
      rw [← hL] at hr
      have Hfin := Lib.hid (show spl L k t t.length = put s k t from by rw [hL]; exact spl_put s k t Hn.out m (by omega))
      have hLk : k + t.length ≤ L.length := by omega
      have hLm : L.length ≤ 33554432 := by omega
      clear hlt
      obtain ⟨wo, rfl⟩ : ∃ wo : World, wo = wr := ⟨_, rfl⟩
      go_wp2_with fail
      go_loopw [8] (fun i wx => Laid w g cp L k t i wx) (fun i _ => t.length - (intOf i).toNat)
      case atStart => exact ⟨0, by omega, rfl, by rw [spl_zero]; exact hr, ho⟩
      case round =>
       obtain ⟨q, hq, rfl, hr2, ho2⟩ := hrel
       clear hr ho
       by_cases hlt : q < t.length
       · obtain ⟨u, hu⟩ := Option.isSome_iff_exists.1 (hr2.some_ (k + q) (by have := hr2.len; rw [length_spl L k t q hq (by omega)] at this; omega))
         have hf := hr2.free (k + q) (by have := hr2.len; rw [length_spl L k t q hq (by omega)] at this; omega)
         go_wp2
         go_roundw
         case rel => exact Laid.more hr2 ho2 hg hlt hLk _ rfl
         case measure => simp [intOf]; omega
       · obtain rfl : q = t.length := by omega
         have hcv := hr2.str (P := Tryz.prog) cp Tryz.underlying116 Tryz.underlying5 Tryz.underlying9
         rw [length_spl L k t t.length hq (by omega), hLl, Hfin.out] at hcv
         clear hr2
         go_wp2
         go_ret
         exact ⟨rfl, ho2⟩
end Go.Proofs.YtdegmpigkgkafaaGreatDoor
