/-
  slices.Insert of one element, walked. Condition: at most 1,000,000 elements.
-/
import Derived.Test.YtocbfobakmieoaaLkW12
import Derived.Lib.AppendZeros
import Derived.Lib.Overlaps
import Derived.Deep.AppendSrc
namespace Go.Proofs.Ytocbfobakmieoaa
set_option linter.unusedVariables false
set_option linter.unusedSimpArgs false
set_option linter.unusedSectionVars false
open Go.RowKit

theorem Only.rules {W w1 : World} (h : Only NoF W w1) : (∀ b o, b < W.heap.size → w1.cell? ⟨b, o, none⟩ = W.cell? ⟨b, o, none⟩) ∧ (∀ b o, b < W.heap.size → w1.frozen? ⟨b, o, none⟩ = W.frozen? ⟨b, o, none⟩) ∧ W.heap.size ≤ w1.heap.size :=
  ⟨fun b o hb => h.cell (p := ⟨b, o, none⟩) hb id, fun b o hb => h.frozen (p := ⟨b, o, none⟩) hb id, h.size⟩

theorem Blk.shape {w : World} {g : Nat} {t : TypeId} {cs : Array Value} (h : Blk w g t cs) : w.shape? g = some (t, cs.size) := by
  unfold Blk at h
  simp [World.shape?, h]

section
variable {P : Program} (w : World)
/-- 'append(s, make([]T, m)..)' where there is no room -/
theorem run_append_zeros (t tn ty e : TypeId) (i : TypeInfo) (z : Value) (k kn : IntKind) (ht : P.underlying t = some (.slice e)) (htn : P.underlying tn = some (.int kn)) (hi : P.info? e = some i) (hz : i.zero = some z)
    (base : Option Addr) (n c : Nat) (olds : List Value) (hold : (Builtin.firstCells i.size n (.slice base n c)).run P w.drew = .ok olds.toArray w.drew) (m : Nat) (h0 : 0 < m) (hs : 0 < i.size) (hg : c < n + m)
    (h63 : ((n + m : Nat) : Int) ≤ 9223372036854775807) (hb : (n + m) * i.bytes ≤ 140737488355328) (hfit : Builtin.nextslicecap (n + m) c * i.bytes ≤ 281474976710656) :
    (Builtin.append_ #[t, tn] ty #[.slice base n c, .int k m]).run P w =
      .ok (.slice (some ⟨w.heap.size, 0, none⟩) (n + m) (grownCap w (n + m) c e))
        (w.drew.alloc (.cells ((olds ++ (Builtin.zeroCells z.cells m).toList).toArray ++ Builtin.zeroCells z.cells (grownCap w (n + m) c e - (n + m))) e)) := by
  have hn : ¬ (n + m ≤ c) := by omega
  have hw : IntKind.i64.wrap (m : Int) = m := by rw [IntKind.wrap_i64]; omega
  have h63' : ¬ (9223372036854775807 < ((n : Int) + (m : Int))) := by omega
  have h48' : ¬ (281474976710656 < Builtin.nextslicecap (n + m) c * i.bytes) := by omega
  have hmb : m * i.bytes ≤ (n + m) * i.bytes := Nat.mul_le_mul_right _ (by omega)
  have h48i : ¬ (281474976710656 < (m : Int) * (i.bytes : Int)) := by
    rw [← Int.natCast_mul]
    omega
  have hneg : ¬ ((m : Int) < 0) := by omega
  have hns : ¬ (m * i.size = 0) := Nat.mul_ne_zero (by omega) (by omega)
  simp [Builtin.append_, run_underlying ht, run_underlying htn, sizeOf, typeInfo, zeroValue, hi, hz, asInt, asIntOf, hw, hn, hneg, hns, h63', h48', h48i, Question.forced, hold, newRow, grownCap]
  congr 2
  apply Array.ext'
  simp [List.append_assoc]
end

theorem run_op_copy {P : Program} {o : Oper} {a : Act} {w w' : World} {d s : Operand} {t t' : TypeId} {v1 v2 v : Value} (ho : o.op = .call { callee := .builtin .copy, args := #[d, s], argTypes := #[t, t'] }) (hd : a.eval d = v1) (hs : a.eval s = v2)
    (hrun : (Builtin.copy_ #[t, t'] o.type #[v1, v2]).run P w = .ok v w') : (execOp a.eval o).run P w = .ok (.value v) w' := by
  unfold execOp
  simp only [ho, resolve, invoke, builtin, Sem.run_bind, Sem.run_pure, Result.andThen_ok, List.map_toArray, List.map_cons, List.map_nil, hd, hs, hrun]
section
variable {P : Program} {o : Oper} {a : Act} {w : World}
theorem run_op_move {x : Operand} (ho : o.op = .move x) : (execOp a.eval o).run P w = .ok (.value (a.eval x)) w := by
  unfold execOp
  simp only [ho]
  rfl
theorem run_op_slice {T : TypeId} {x lo : Operand} {v v1 v2 : Value} (ho : o.op = .slice T x (some lo) none none) (h1 : a.eval x = v1) (h2 : a.eval lo = v2) (ht : P.underlying T = some (.slice (P.elem T))) (hr : (Instr.slice T v1 (some v2) none none).run P w = .ok v w) : (execOp a.eval o).run P w = .ok (.value v) w := by
  unfold execOp
  simp only [ho, Option.map_some, Option.map_none, h1, h2]
  simp [run_sliceAt_slice _ T _ _ _ _ ht, hr]
theorem run_op_addI {T T' : TypeId} {x y : Operand} {m n k : Int} (ho : o.op = .binOp .add T x y T') (h1 : a.eval x = .int .i64 m) (h2 : a.eval y = .int .i64 n) (ht : P.underlying T = some (.int .i64)) (hw : IntKind.i64.wrap (m + n) = k) : (execOp a.eval o).run P w = .ok (.value (.int .i64 k)) w := by
  subst hw
  unfold execOp
  simp only [ho, h1, h2]
  simp [go_sem]
variable {ops : Array Oper} {S' : Nat → World → Prop} {T : List Nat} {Qa : Act → Prop} {i : Nat} {R : List Nat}
theorem wpReads_plain (v : Value) (ho : ops[i]? = some o) (hg : o.guard = none) (hy : ∀ w', (execOp a.eval o).run P w' = .ok (.value v) w') (h : wpReads P ops S' T Qa R (a.put o.dst v)) : wpReads P ops S' T Qa (i :: R) a :=
  wpReads_cons ho v (by simp [Region.wanted, hg]) (fun w' _ _ _ => hy w') h
end
theorem wpList_run {P : Program} {ops : Array Oper} {rest : List Oper} {o : Oper} {a : Act} {Q : Exit → Act → World → Prop} {w w' : World} {v : Value} (hgd : o.guard = none) (hr : (execOp a.eval o).run P w = .ok (.value v) w') (h : wpList P ops Q rest (a.put o.dst v) w') : wpList P ops Q (o :: rest) a w :=
  wpList_plain hgd fun _ hK => by
    unfold Oper.wp
    rw [hr]
    exact hK _ _ h

/-- the row with one element more -/
def InsRow (base : Nat) (t : TypeId) (size : Nat) (v : Value) (n i : Nat) (xs news : List Value) (w : World) (e : Ending) (w' : World) : Prop :=
  ∃ v', e = .returned v' ∧ w'.ownsRow base t size v' (n + 1) (xs.take (i * size) ++ news ++ xs.drop (i * size)) ∧ Only (fun k => v.ownBlock = some k) w w'

/-- the address behind 's[k:]' -/
def cutA (A : Option Addr) (cap k size : Nat) : Option Addr := if cap = k then A else A.map (·.add (k * size))
theorem Reads.cutA {w : World} {S : Nat → Prop} {size n : Nat} {A : Option Addr} {xs : List Value} (h : Reads w S size A n xs) {k cap : Nat} (hk : k ≤ n) (hc : n ≤ cap) : Reads w S size (cutA A cap k size) (n - k) (xs.drop (k * size)) := Reads.cut h hk hc
theorem slice_lo {P : Program} {T e : TypeId} {i : TypeInfo} (ht : P.underlying T = some (.slice e)) (hi : P.info? e = some i) {size : Nat} (hs : i.size = size) (A : Option Addr) (n c k : Nat) (hk : k ≤ n) (w : World) :
    (Instr.slice T (.slice A n c) (some (.int .i64 (k : Int))) none none).run P w = .ok (.slice (cutA A c k size) (n - k) (c - k)) w := by
  have h1 : ¬ (n : Int) < (k : Int) := by omega
  simp [Instr.slice, Instr.sliceBounds, Instr.sliceBound, run_underlying ht, asIntOf, sizeOf, typeInfo, hi, hs, cutA, hk]

theorem slice_in {P : Program} {T e : TypeId} {i : TypeInfo} (ht : P.underlying T = some (.slice e)) (hi : P.info? e = some i) {size : Nat} (hs : i.size = size) (g n c k : Nat) (hk : k ≤ n) (hc : k < c) (w : World) :
    (Instr.slice T (.slice (some ⟨g, 0, none⟩) n c) (some (.int .i64 (k : Int))) none none).run P w = .ok (.slice (some ⟨g, k * size, none⟩) (n - k) (c - k)) w := by
  rw [slice_lo ht hi hs (some ⟨g, 0, none⟩) n c k hk w, cutA, if_neg (by omega), Option.map_some, Addr.add_lit, Nat.zero_add]
theorem ins_take1 {R u v : List Value} {o1 o2 k : Nat} (h2 : o2 = o1 + v.length) (hk : k = o2 + u.length) (hR : k ≤ R.length) : (splice (splice R o1 v) o2 u).take k = R.take o1 ++ v ++ u := by
  subst h2 hk
  apply List.ext_getElem?
  intro j
  rw [List.getElem?_take]
  have hl : (splice R o1 v).length = R.length := length_splice (by omega)
  have ho : (R.take o1).length = o1 := by simp; omega
  split
  · rw [splice_get (by omega), splice_get (by omega)]
    by_cases a : j < o1
    · rw [if_pos (by omega), if_pos a, List.append_assoc, List.getElem?_append_left (by omega), List.getElem?_take, if_pos a]
    · by_cases b : j < o1 + v.length
      · rw [if_pos b, if_neg a, if_pos b, List.getElem?_append_left (by simp; omega), List.getElem?_append_right (by omega), ho]
      · rw [if_neg b, if_pos (by omega), List.getElem?_append_right (by simp; omega)]
        congr 1
        simp
        omega
  · rw [List.getElem?_eq_none (by simp; omega)]
theorem ins_take2 {R u v : List Value} {o1 o2 k : Nat} (h2 : o2 = o1 + v.length) (hk : k = o2 + u.length) (hR : k ≤ R.length) : (splice (splice R o2 u) o1 v).take k = R.take o1 ++ v ++ u := by
  subst h2 hk
  apply List.ext_getElem?
  intro j
  rw [List.getElem?_take]
  have hl : (splice R (o1 + v.length) u).length = R.length := length_splice (by omega)
  have ho : (R.take o1).length = o1 := by simp; omega
  split
  · rw [splice_get (by omega), splice_get (by omega)]
    by_cases a : j < o1
    · rw [if_pos a, if_pos (by omega), List.append_assoc, List.getElem?_append_left (by omega), List.getElem?_take, if_pos a]
    · rw [if_neg a]
      by_cases b : j < o1 + v.length
      · rw [if_pos b, List.getElem?_append_left (by simp; omega), List.getElem?_append_right (by omega), ho]
      · rw [if_neg b, if_neg b, if_pos (by omega), List.getElem?_append_right (by simp; omega)]
        congr 1
        simp
        omega
  · rw [List.getElem?_eq_none (by simp; omega)]

section
variable {w : World}
set_option maxRecDepth 100000 in
set_option maxHeartbeats 1000000 in
theorem insPr_end {base n : Nat} {v : Value} {xs : List Value} (h : w.ownsRow base 60 2 v n xs) (hn : n ≤ 1000000) (hbase : base ≤ w.heap.size)
    {g c : Nat} {news : List Value} {S : Nat → Prop} (hr : Reads w S 2 (some ⟨g, 0, none⟩) 1 news) (h2 : ∀ u ∈ news, u.oneCell' = true) :
    Calls Try.prog 45 #[v, .int .i64 (n : Int), .slice (some ⟨g, 0, none⟩) 1 c] w (InsRow base 60 2 v n n xs news w) := by
  have hx : xs.take (n * 2) ++ news ++ xs.drop (n * 2) = xs ++ news := by
    rw [List.take_of_length_le (by rw [h.1]; omega), List.drop_of_length_le (by rw [h.1]; omega)]
    simp
  have HX := Lib.hid hx
  have HH := Lib.hid h
  have HR := Lib.hid hr
  obtain ⟨B, d, rfl, m1, m2, _⟩ := Reads.of_own h
  obtain ⟨ti, hti, hz0, hz1, hz2⟩ := info_parts info_Pr
  unfold maxLen at m2
  have H2 := Lib.hid h2
  clear hx h hr h2
  have hsl := fun w => slice_lo (P := Try.prog) Try.underlying23 hti hz1 B n d n (Nat.le_refl n) w
  go_enter Try.func45, Try.ntmps45
  go_wp2_with (at_builtin; (refine wpList_append_any _ rfl _ _ _ rfl base 60 ti _ 2 16 Try.underlying23 hti hz0 hz1 hz2 rfl (by decide) (.slice B n d) _ _ rfl HH.out _ _ 1 c _ rfl HR.out H2.out (by unfold maxLen; omega) (by omega) hbase ?_); intro v' w3 hown hgrow hat; (have HG := Lib.hid hgrow); (have HOWN := Lib.hid hown); clear hown hgrow hat)
  go_ret
  refine ⟨_, rfl, ?_, (Only.refl _ w).grown HG.out fun k hk => .inl hk⟩
  rw [HX.out]
  exact HOWN.out

set_option maxRecDepth 100000 in
set_option maxHeartbeats 1000000 in
theorem insPr_room {base g n d : Nat} {xs : List Value} (h : w.ownsRow base 60 2 (.slice (some ⟨g, 0, none⟩) n d) n xs) (h1 : ∀ u ∈ xs, u.oneCell' = true) {i : Nat} (hi : i < n) (hn : n ≤ 1000000) (hroom : n + 1 ≤ d)
    {gv : Nat} {tv : TypeId} {news : List Value} (hv : Blk w gv tv news.toArray) (hne : gv ≠ g) (hl : news.length = 2) (h2 : ∀ u ∈ news, u.oneCell' = true) :
    Calls Try.prog 45 #[.slice (some ⟨g, 0, none⟩) n d, .int .i64 (i : Int), .slice (some ⟨gv, 0, none⟩) 1 1] w (InsRow base 60 2 (.slice (some ⟨g, 0, none⟩) n d) n i xs news w) := by
  have hxl := h.1
  have hrd := Reads.of_own h
  rcases h.2 with ⟨h2, _⟩ | ⟨g', cap', cur, he, hg, hh, m1, m2, q3, q4⟩
  · cases h2
  cases he
  obtain ⟨_, _, he, _, _, hr0⟩ := hrd
  cases he
  unfold maxLen at m2
  have hbk : Blk w g 60 (cur.toList).toArray := by rw [Array.toArray_toList]; exact hh
  obtain ⟨ti, hti, hz0, hz1, hz2⟩ := info_parts info_Pr
  have s1 := fun w => slice_in (P := Try.prog) Try.underlying23 hti hz1 g n d i (by omega) (by omega) w
  have s2 := fun w => slice_in (P := Try.prog) Try.underlying23 hti hz1 g (n + 1) d (i + 1) (by omega) (by omega) w
  rw [show n + 1 - (i + 1) = n - i by omega] at s2
  have s3 := fun w => slice_in (P := Try.prog) Try.underlying23 hti hz1 g (n + 1) d i (by omega) (by omega) w
  have hov : (callFunc 59 #[.slice (some ⟨gv, 0, none⟩) 1 1, .slice (some ⟨g, (i + 1) * 2, none⟩) (n - i) (d - (i + 1))]).run Try.prog w = .ok (.value (.bool false)) w := by
    rw [run_callFunc_extern Try.func59 (by kernel_rfl) (by kernel_rfl) (by kernel_rfl) (e := Extern.SlicesOverlaps.overlaps #[23, 23] #[4]) (by kernel_rfl),
      Lib.run_overlaps_apart w 23 4 60 Try.underlying23 2 (fun w => by simp [sizeOf, typeInfo, hti, hz1]) ⟨gv, 0, none⟩ ⟨g, (i + 1) * 2, none⟩ 1 1 _ _ hne _ _ _ _ hv.shape hbk.shape (by rw [Array.toArray_toList, q3]; omega) (hv.frozen 0) (hv.frozen _)]
    rfl
  have hrd2 : Reads w (fun k => k = g) 2 (some ⟨g, i * 2, none⟩) (n - i) (xs.drop (i * 2)) := by
    have := Reads.cut hr0 (k := i) (cap := d) (by omega) (by omega)
    rw [if_neg (by omega), Option.map_some, Addr.add_lit, Nat.zero_add] at this
    exact this.sup fun k hk => (Option.some.inj hk).symm
  have c1 := fun ty : TypeId => run_copy_blk (P := Try.prog) (w := w.drew) (dT := 23) (sT := 23) (ty := ty) Try.underlying23 hti hz1 hbk ((i + 1) * 2) (n - i) (d - (i + 1)) (some ⟨g, i * 2, none⟩) (n + 1 - i) (d - i) (n - i) (by simp only [Nat.min_def]; split <;> omega) (xs.drop (i * 2)) (hrd2.only ((Only.refl NoF w).drew) fun _ _ h => h) (fun u hu => h1 u (List.mem_of_mem_drop hu)) (by simp only [Array.length_toList]; omega)
  have hb1 := Blk.setRow_ (w := w.drew) hbk (splice cur.toList ((i + 1) * 2) (xs.drop (i * 2))).toArray
  have hv1 : Blk (w.drew.setRow g (splice cur.toList ((i + 1) * 2) (xs.drop (i * 2))).toArray) gv tv news.toArray := Blk.setRow_far (w := w.drew) hv hne _
  have hvr : Reads (w.drew.setRow g (splice cur.toList ((i + 1) * 2) (xs.drop (i * 2))).toArray) (fun _ => True) 2 (some ⟨gv, 0, none⟩) 1 news := ⟨by omega, fun _ => ⟨_, rfl, trivial, hv1.lt, fun j u hj => (show (⟨gv, 0, none⟩ : Addr).add j = ⟨gv, j, none⟩ by rw [Addr.add_lit, Nat.zero_add]) ▸ ((hv1.cell j).trans (by simpa using hj))⟩⟩
  have hdl : (xs.drop (i * 2)).length = (n - i) * 2 := by rw [List.length_drop, hxl]; omega
  have hsl : (splice cur.toList ((i + 1) * 2) (xs.drop (i * 2))).length = d * 2 := by
    rw [length_splice (by rw [hdl]; simp only [Array.length_toList]; omega)]
    simpa using q3
  have c2 := fun ty : TypeId => run_copy_blk (P := Try.prog) (dT := 23) (sT := 23) (ty := ty) Try.underlying23 hti hz1 hb1 (i * 2) (n + 1 - i) (d - i) (some ⟨gv, 0, none⟩) 1 1 1 (by simp only [Nat.min_def]; split <;> omega) news hvr h2 (by omega)
  have hb2 := hb1.setRow_ (splice (splice cur.toList ((i + 1) * 2) (xs.drop (i * 2))) (i * 2) news).toArray
  have hfin : (splice (splice cur.toList ((i + 1) * 2) (xs.drop (i * 2))) (i * 2) news).take ((n + 1) * 2) = xs.take (i * 2) ++ news ++ xs.drop (i * 2) := by
    rw [ins_take2 (by omega) (by rw [hdl]; omega) (by simp; omega)]
    congr 2
    rw [← q4, List.take_take, Nat.min_eq_left (by omega)]
  have C1 := Lib.hid c1
  have C2 := Lib.hid c2
  have HFIN := Lib.hid hfin
  have HB2 := Lib.hid hb2
  have HSL := Lib.hid hsl
  have HXL := Lib.hid hxl
  have HL := Lib.hid hl
  have HG := Lib.hid hg
  have b1 : ((1 : Int) == 0) = false := rfl
  have hw1 : IntKind.i64.wrap ((i : Int) + 1) = ((i + 1 : Nat) : Int) := by rw [IntWalk.i64_in _ (by omega)]; rfl
  have b2 : ((i : Int) == (n : Int)) = false := by simp; omega
  have b3 : ¬ (d : Int) < (n : Int) + 1 := by omega
  have b4 : (0 : Int) ≤ (n : Int) + 1 := by omega
  have b5 : (n : Int) + 1 ≤ (d : Int) := by omega
  have b6 : ((n : Int) + 1).toNat = n + 1 := by omega
  clear c1 c2 hfin hb2 hsl hdl hvr hv1 hb1 hrd2 hbk hr0 h hh hxl q4 q3 hg hti hz0 hz1 hz2 h1 h2 hl hv
  go_enter Try.func45, Try.ntmps45
  go_wp2_with fail
  refine wp_region_reads [0, 1, 2, 3, 4, 5, 6, 7] [8] (fun _ _ => True) (by kernel_rfl) (by kernel_rfl) (fun _ _ _ _ _ h => h) trivial ?_
  iterate 3
    refine wpReads_plain _ rfl rfl (fun _ => run_op_move rfl) ?_
    go_simp
  refine wpReads_plain (.int .i64 ((i + 1 : Nat) : Int)) rfl rfl (fun _ => run_op_addI rfl rfl rfl Try.underlying3 hw1) ?_
  go_simp
  refine wpReads_plain (.slice (some ⟨g, (i + 1) * 2, none⟩) (n - i) (d - (i + 1))) rfl rfl (fun _ => run_op_slice rfl rfl rfl Try.underlying23 (s2 _)) ?_
  go_simp
  iterate 2
    refine wpReads_plain _ rfl rfl (fun _ => run_op_move rfl) ?_
    go_simp
  refine wpReads_plain (.slice (some ⟨g, i * 2, none⟩) (n + 1 - i) (d - i)) rfl rfl (fun _ => run_op_slice rfl rfl rfl Try.underlying23 (s3 _)) ?_
  go_simp
  refine wpReads_nil ?_
  refine wpTail_run rfl rfl (run_op_copy rfl rfl rfl (C1.out _)) trivial ?_
  go_simp
  refine wpTail_nil ?_
  go_wp2_with (refine wpList_run rfl (run_op_copy rfl rfl rfl (C2.out _)) ?_)
  go_ret
  refine ⟨_, rfl, own_of_blk HB2.out HG.out ?_ hroom (by unfold maxLen; omega) ?_ HFIN.out, ((((Only.refl (fun k => (Value.slice (some ⟨g, 0, none⟩) n d).ownBlock = some k) w).drew).setRow' (.inl rfl) _).setRow' (.inl rfl) _)⟩
  · have := HXL.out
    have := HL.out
    simp only [List.length_append, List.length_take, List.length_drop]
    omega
  · have := HSL.out
    have := HL.out
    rw [length_splice (by omega)]
    exact HSL.out

set_option maxRecDepth 100000 in
set_option maxHeartbeats 1000000 in
theorem insPr_grow {base g n d : Nat} {xs : List Value} (h : w.ownsRow base 60 2 (.slice (some ⟨g, 0, none⟩) n d) n xs) (h1 : ∀ u ∈ xs, u.oneCell' = true) {i : Nat} (hi : i < n) (hn : n ≤ 1000000) (hroom : d < n + 1) (hbase : base ≤ w.heap.size)
    {gv : Nat} {tv : TypeId} {news : List Value} (hv : Blk w gv tv news.toArray) (hl : news.length = 2) (h2 : ∀ u ∈ news, u.oneCell' = true) :
    Calls Try.prog 45 #[.slice (some ⟨g, 0, none⟩) n d, .int .i64 (i : Int), .slice (some ⟨gv, 0, none⟩) 1 1] w (InsRow base 60 2 (.slice (some ⟨g, 0, none⟩) n d) n i xs news w) := by
  have hxl := h.1
  obtain ⟨_, _, he, hnd, _, hr0⟩ := Reads.of_own h
  cases he
  obtain rfl : d = n := by omega
  obtain ⟨ti, hti, hz0, hz1, hz2⟩ := info_parts info_Pr
  have hgw : g < w.heap.size := by
    obtain ⟨_, he, _, hlt, _⟩ := hr0.2 (by omega)
    cases he
    exact hlt
  obtain ⟨m, hm⟩ : ∃ m, m = d + 1 - i := ⟨_, rfl⟩
  have hmi : (d : Int) + 1 - (i : Int) = (m : Int) := by omega
  have s1 := fun w => slice_in (P := Try.prog) Try.underlying23 hti hz1 g d d i (by omega) (by omega) w
  have hrdi : Reads w (fun k => k = g) 2 (some ⟨g, 0, none⟩) i (xs.take (i * 2)) := (hr0.take_ (by omega)).sup fun k hk => (Option.some.inj hk).symm
  have hold : (Builtin.firstCells ti.size i (.slice (some ⟨g, 0, none⟩) i d)).run Try.prog w.drew = .ok (xs.take (i * 2)).toArray w.drew := by
    rw [hz1]
    refine run_firstCells_some w.drew 2 i ⟨g, 0, none⟩ i d _ hrdi.1 fun j u hj => ?_
    obtain ⟨_, he, _, _, hc⟩ := hrdi.2 (by have h1 := hrdi.1; have h2 := (List.getElem?_eq_some_iff.1 hj).1; omega)
    cases he
    exact hc j u hj
  obtain ⟨cp, hcp⟩ : ∃ cp, cp = grownCap w (i + m) d 60 := ⟨_, rfl⟩
  have hc1 : d + 1 ≤ cp := by rw [hcp]; exact Nat.le_trans (by omega) (grownCap_ge w (i + m) d 60)
  have hc2 : cp ≤ maxLen := by rw [hcp]; exact grownCap_le_maxLen w (i + m) d 60 (by unfold maxLen; omega)
  have ha := fun ty : TypeId => run_append_zeros (P := Try.prog) w 23 3 ty 60 ti _ .i64 .i64 Try.underlying23 Try.underlying3 hti hz0 (some ⟨g, 0, none⟩) i d _ hold m (by omega) (by omega) (by omega) (by omega) (by rw [hz2]; omega) (by rw [hz2]; exact growslice_fits (by omega) (by omega))
  rw [← hcp, show i + m = d + 1 by omega] at ha
  obtain ⟨R, hR⟩ : ∃ R : List Value, R = xs.take (i * 2) ++ ((Builtin.zeroCells (Value.cells (.agg #[.int .i64 0, .int .i64 0])) m).toList ++ (Builtin.zeroCells (Value.cells (.agg #[.int .i64 0, .int .i64 0])) (cp - (d + 1))).toList) := ⟨_, rfl⟩
  have hR2 : ((xs.take (i * 2) ++ (Builtin.zeroCells (Value.cells (.agg #[.int .i64 0, .int .i64 0])) m).toList).toArray ++ Builtin.zeroCells (Value.cells (.agg #[.int .i64 0, .int .i64 0])) (cp - (d + 1))) = R.toArray := by
    rw [hR]; apply Array.ext'; simp
  have hRl : R.length = cp * 2 := by
    rw [hR]
    simp only [List.length_append, List.length_take, Builtin.zeroCells, Array.length_toList, Array.size_map, Array.size_range, hxl]
    simp [Value.cells]
    omega
  have hRt : R.take (i * 2) = xs.take (i * 2) := by
    rw [hR, List.take_append_of_le_length (by simp; omega), List.take_take, Nat.min_self]
  rw [hR2] at ha
  have hb0 : Blk ((w.alloc (.cells R.toArray 60)).drew) w.heap.size 60 R.toArray := Blk.new w.drew 60 R.toArray
  have hv0 : Blk ((w.alloc (.cells R.toArray 60)).drew) gv tv news.toArray := Blk.alloc (w := w) hv _
  have s2 := fun w' => slice_in (P := Try.prog) Try.underlying23 hti hz1 w.heap.size (d + 1) cp i (by omega) (by omega) w'
  have s3 := fun w' => slice_in (P := Try.prog) Try.underlying23 hti hz1 w.heap.size (d + 1) cp (i + 1) (by omega) (by omega) w'
  rw [show d + 1 - (i + 1) = d - i by omega] at s3
  have hvr : Reads ((w.alloc (.cells R.toArray 60)).drew) (fun _ => True) 2 (some ⟨gv, 0, none⟩) 1 news := ⟨by omega, fun _ => ⟨_, rfl, trivial, hv0.lt, fun j u hj => (show (⟨gv, 0, none⟩ : Addr).add j = ⟨gv, j, none⟩ by rw [Addr.add_lit, Nat.zero_add]) ▸ ((hv0.cell j).trans (by simpa using hj))⟩⟩
  have c1 := fun ty : TypeId => run_copy_blk (P := Try.prog) (dT := 23) (sT := 23) (ty := ty) Try.underlying23 hti hz1 hb0 (i * 2) (d + 1 - i) (cp - i) (some ⟨gv, 0, none⟩) 1 1 1 (by simp only [Nat.min_def]; split <;> omega) news hvr h2 (by omega)
  have hb1 := hb0.setRow_ (splice R (i * 2) news).toArray
  have hsl : (splice R (i * 2) news).length = cp * 2 := by rw [length_splice (by omega)]; exact hRl
  have hrd2 : Reads w (fun k => k = g) 2 (some ⟨g, i * 2, none⟩) (d - i) (xs.drop (i * 2)) := by
    have := Reads.cut hr0 (k := i) (cap := d) (by omega) (by omega)
    rw [if_neg (by omega), Option.map_some, Addr.add_lit, Nat.zero_add] at this
    exact this.sup fun k hk => (Option.some.inj hk).symm
  have hon : Only NoF w ((((w.alloc (.cells R.toArray 60)).drew).setRow w.heap.size (splice R (i * 2) news).toArray).drew) := (((((Only.refl NoF w).alloc _).drew).setRow' (.inr (Nat.le_refl _)) _).drew)
  have c2 := fun ty : TypeId => run_copy_blk (P := Try.prog) (w := (((w.alloc (.cells R.toArray 60)).drew).setRow w.heap.size (splice R (i * 2) news).toArray).drew) (dT := 23) (sT := 23) (ty := ty) Try.underlying23 hti hz1 hb1 ((i + 1) * 2) (d - i) (cp - (i + 1)) (some ⟨g, i * 2, none⟩) (d - i) (d - i) (d - i) (by simp) (xs.drop (i * 2)) (hrd2.only hon fun _ _ h => h) (fun u hu => h1 u (List.mem_of_mem_drop hu)) (by omega)
  have hb2 := Blk.setRow_ (w := (((w.alloc (.cells R.toArray 60)).drew).setRow w.heap.size (splice R (i * 2) news).toArray).drew) hb1 (splice (splice R (i * 2) news) ((i + 1) * 2) (xs.drop (i * 2))).toArray
  have hdl : (xs.drop (i * 2)).length = (d - i) * 2 := by rw [List.length_drop, hxl]; omega
  have hfin : (splice (splice R (i * 2) news) ((i + 1) * 2) (xs.drop (i * 2))).take ((d + 1) * 2) = xs.take (i * 2) ++ news ++ xs.drop (i * 2) := by
    rw [ins_take1 (by omega) (by rw [hdl]; omega) (by omega), hRt]
  have hlen : (splice (splice R (i * 2) news) ((i + 1) * 2) (xs.drop (i * 2))).length = cp * 2 := by rw [length_splice (by rw [hdl]; omega)]; exact hsl
  have hxn : (xs.take (i * 2) ++ news ++ xs.drop (i * 2)).length = (d + 1) * 2 := by simp only [List.length_append, List.length_take, hdl]; omega
  have HA := Lib.hid ha
  have C1 := Lib.hid c1
  have C2 := Lib.hid c2
  have HFIN := Lib.hid hfin
  have HB2 := Lib.hid hb2
  have HLEN := Lib.hid hlen
  have HXN := Lib.hid hxn
  have HO := Lib.hid hon
  have b1 : ((1 : Int) == 0) = false := rfl
  have hw1 : IntKind.i64.wrap ((i : Int) + 1) = ((i + 1 : Nat) : Int) := by rw [IntWalk.i64_in _ (by omega)]; rfl
  have b2 : ((i : Int) == (d : Int)) = false := by simp; omega
  have b4 : (0 : Int) ≤ (d : Int) + 1 := by omega
  have hid : i ≤ d := by omega
  clear ha c1 c2 hfin hb2 hlen hxn hon hdl hrd2 hsl hb1 hvr hv0 hb0 hR2 hRl hRt hR hold hrdi hr0 h hxl hti hz0 hz1 hz2 h1 h2 hl hv hcp hm
  go_enter Try.func45, Try.ntmps45
  go_wp2_with (first | (at_builtin; refine Lib.wpList_append_run _ rfl _ _ _ _ rfl _ _ rfl rfl _ _ (HA.out _) ?_) | (refine wpList_run rfl (run_op_copy rfl rfl rfl (C1.out _)) ?_))
  refine wp_region_reads [0, 1, 2, 3, 4, 5, 6, 7] [8] (fun _ _ => True) (by kernel_rfl) (by kernel_rfl) (fun _ _ _ _ _ h => h) trivial ?_
  iterate 3
    refine wpReads_plain _ rfl rfl (fun _ => run_op_move rfl) ?_
    go_simp
  refine wpReads_plain (.int .i64 ((i + 1 : Nat) : Int)) rfl rfl (fun _ => run_op_addI rfl rfl rfl Try.underlying3 hw1) ?_
  go_simp
  refine wpReads_plain (.slice (some ⟨w.heap.size, (i + 1) * 2, none⟩) (d - i) (cp - (i + 1))) rfl rfl (fun _ => run_op_slice rfl rfl rfl Try.underlying23 (s3 _)) ?_
  go_simp
  iterate 2
    refine wpReads_plain _ rfl rfl (fun _ => run_op_move rfl) ?_
    go_simp
  refine wpReads_plain (.slice (some ⟨g, i * 2, none⟩) (d - i) (d - i)) rfl rfl (fun _ => run_op_slice rfl rfl rfl Try.underlying23 (s1 _)) ?_
  go_simp
  refine wpReads_nil ?_
  refine wpTail_run rfl rfl (run_op_copy rfl rfl rfl (C2.out _)) trivial ?_
  go_simp
  refine wpTail_nil ?_
  go_wp2
  go_ret
  exact ⟨_, rfl, own_of_blk HB2.out hbase HXN.out hc1 hc2 HLEN.out HFIN.out, (HO.out.setRow' (.inr (Nat.le_refl _)) _).mono fun _ h => h.elim⟩

theorem insPr_c {base n : Nat} {v : Value} {xs : List Value} (h : w.ownsRow base 60 2 v n xs) (h1 : ∀ u ∈ xs, u.oneCell' = true) {i : Nat} (hi : i ≤ n) (hn : n ≤ 1000000) (hbase : base ≤ w.heap.size)
    {gv : Nat} {tv : TypeId} {news : List Value} (hv : Blk w gv tv news.toArray) (hne : v.ownBlock ≠ some gv) (hl : news.length = 2) (h2 : ∀ u ∈ news, u.oneCell' = true) :
    Calls Try.prog 45 #[v, .int .i64 (i : Int), .slice (some ⟨gv, 0, none⟩) 1 1] w (InsRow base 60 2 v n i xs news w) := by
  by_cases hin : i = n
  · subst hin
    exact insPr_end h hn hbase (S := fun _ => True) ⟨by omega, fun _ => ⟨_, rfl, trivial, hv.lt, fun j u hj => (show (⟨gv, 0, none⟩ : Addr).add j = ⟨gv, j, none⟩ by rw [Addr.add_lit, Nat.zero_add]) ▸ ((hv.cell j).trans (by simpa using hj))⟩⟩ h2
  · have hr := Reads.of_own h
    obtain ⟨A, d, rfl, hnd, _, hr⟩ := hr
    rcases h.2 with ⟨he, rfl⟩ | ⟨g, cap, cur, he, _⟩
    · omega
    · cases he
      by_cases hroom : n + 1 ≤ d
      · exact insPr_room h h1 (by omega) hn hroom hv (fun e => hne (by rw [e]; rfl)) hl h2
      · exact insPr_grow h h1 (by omega) hn (by omega) hbase hv hl h2
end
end Go.Proofs.Ytocbfobakmieoaa
