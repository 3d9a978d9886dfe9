/-
  slices.Delete of one element, walked; the link's without and Lose. Condition: at most 1,000,000 elements.
-/
import Derived.Test.YtocbfobakmieoaaLkW6
namespace Go.Proofs.Ytocbfobakmieoaa
set_option linter.unusedVariables false
set_option linter.unusedSimpArgs false
set_option linter.unusedSectionVars false
open Go.RowKit

/-- the row with one element less -/
def DelRow (base g : Nat) (t : TypeId) (size n cap i : Nat) (xs : List Value) (w : World) (e : Ending) (w' : World) : Prop :=
  e = .returned (.slice (some ⟨g, 0, none⟩) n cap) ∧ w'.ownsRow base t size (.slice (some ⟨g, 0, none⟩) n cap) n (xs.take (i * size) ++ xs.drop ((i + 1) * size)) ∧ Only (oneF g) w w'

theorem del_take {cur xs : List Value} {a b c d : Nat} (h : cur.take d = xs) (hl : xs.length = d) (h1 : a ≤ b) (h2 : b ≤ d) (h3 : a + (d - b) = c) : (splice cur a (xs.drop b)).take c = xs.take a ++ xs.drop b := by
  have hc : d ≤ cur.length := by
    rw [← h, List.length_take] at hl
    omega
  have e : cur.take a = xs.take a := by rw [← h, List.take_take, Nat.min_eq_left (by omega)]
  unfold splice
  rw [e]
  exact List.take_left' (by simp only [List.length_append, List.length_take, List.length_drop]; omega)
theorem run_op_append {P : Program} {o : Oper} {a : Act} {w w' : World} {s x : Operand} {t : TypeId} {v1 v2 v : Value} (ho : o.op = .call { callee := .builtin .append, args := #[s, x], argTypes := #[t, t] }) (hs : a.eval s = v1) (hx : a.eval x = v2)
    (hrun : (Builtin.append_ #[t, t] o.type #[v1, v2]).run P w = .ok v w') : (execOp a.eval o).run P w = .ok (.value v) w' := by
  unfold execOp
  simp only [ho, resolve, invoke, builtin, Sem.run_bind, Sem.run_pure, Result.andThen_ok, List.map_toArray, List.map_cons, List.map_nil, hs, hx, hrun]

set_option maxRecDepth 100000 in
set_option maxHeartbeats 1000000 in
theorem delMsg_c {w : World} {base g n cap : Nat} {xs : List Value} (h : w.ownsRow base 27 3 (.slice (some ⟨g, 0, none⟩) (n + 1) cap) (n + 1) xs) (h1 : ∀ u ∈ xs, u.oneCell' = true) {i : Nat} (hi : i ≤ n) (hn : n ≤ 1000000) :
    Calls Try.prog 55 #[.slice (some ⟨g, 0, none⟩) (n + 1) cap, .int .i64 (i : Int), .int .i64 ((i + 1 : Nat) : Int)] w (DelRow base g 27 3 n cap i xs w) := by
  have hxl := h.1
  rcases h.2 with ⟨h2, _⟩ | ⟨g', cap', cur, he, hg, hh, m1, m2, q3, q4⟩
  · cases h2
  cases he
  obtain ⟨_, _, he, _, _, hr0⟩ := Reads.of_own h
  cases he
  have hrd := Reads.cut hr0 (k := i + 1) (cap := cap) (by omega) m1
  simp only [Option.map_some, Addr.add_lit, Nat.zero_add] at hrd
  rw [show n + 1 - (i + 1) = n - i by omega] at hrd
  have hb : ((i : Int) == (i : Int) + 1) = false := by simp; omega
  have hb2 : ((i : Int) == ((i + 1 : Nat) : Int)) = false := by simp; omega
  unfold maxLen at m2
  have hbk : Blk w.drew g 27 (cur.toList).toArray := by rw [Array.toArray_toList]; exact hh
  obtain ⟨ti, hti, hz0, hz1, hz2⟩ := info_parts info_Msg
  have happ := fun ty : TypeId => run_append_blk (P := Try.prog) (w := w.drew) (ty := ty) Try.underlying22 hti hz1 hbk i (n - i) cap _ (cap - (i + 1)) _ (hrd.only ((Only.refl NoF w).drew) fun _ _ h => h) (fun u hu => h1 u (List.mem_of_mem_drop hu)) (by omega) (by simp only [Array.length_toList]; omega)
  rw [show i + (n - i) = n by omega] at happ
  have hsl : (splice cur.toList (i * 3) (xs.drop ((i + 1) * 3))).length = cap * 3 := by
    rw [length_splice (by simp only [List.length_drop, Array.length_toList]; omega)]
    simpa using q3
  have hb1 := hbk.setRow_ (splice cur.toList (i * 3) (xs.drop ((i + 1) * 3))).toArray
  obtain ⟨cs', hcl, hl', ht'⟩ := run_clear_row (P := Try.prog) Try.underlying22 (fun w => zeroMsg w) (by decide) hb1 (n * 3) 1 (cap - n) (by show n * 3 + 1 * 3 ≤ _; omega) (by omega)
  have hb3 : ((i : Int) == (n : Int) + 1) = false := by simp; omega
  have hci : i ≤ cap := by omega
  have hc0 : (0 : Int) ≤ (i : Int) + 1 := by omega
  have hcn : ¬ cap = n := by omega
  have HCL := Lib.hid hcl
  have HAP := Lib.hid happ
  have HFIN := Lib.hid (And.intro hl' ht')
  have HSL := Lib.hid hsl
  have HB1 := Lib.hid hb1
  have HXL := Lib.hid hxl
  have HQ4 := Lib.hid q4
  have HQ3 := Lib.hid q3
  have HG := Lib.hid hg
  clear hcl happ hl' ht' hsl hb1 hbk hrd hr0 h hh hxl q4 q3 hg hti hz0 hz1 hz2 h1
  go_enter Try.func55, Try.ntmps55
  go_wp2_with fail
  refine wp_region_reads [0, 1, 2, 3, 4, 5] [6, 7] (fun _ _ => True) (by kernel_rfl) (by kernel_rfl) (fun _ _ _ _ _ h => h) trivial ?_
  iterate 6
    refine wpReads_cons rfl ?_ (by rfl) (fun w' k hk hS => ?_) ?_
    rotate_left
    · go_simp
      first | with_reducible rfl | (rw [if_pos hci]; with_reducible rfl) | (rw [if_pos hc0]; with_reducible rfl)
    try go_simp
  refine wpReads_nil ?_
  refine wpTail_run rfl rfl (run_op_append rfl rfl rfl (HAP.out _)) trivial ?_
  go_simp
  refine wpTail_run rfl rfl (by go_simp; first | with_reducible rfl | exact ⟨rfl, rfl⟩) trivial ?_
  go_simp
  refine wpTail_nil ?_
  have hcl := HCL.out
  go_wp2
  all_goals
    go_ret
    obtain ⟨f1, f2⟩ := HFIN.out
    have hsl := HSL.out
    have hxl := HXL.out
    refine ⟨rfl, own_of_blk (HB1.out.setRow_ cs'.toArray) HG.out ?_ (by omega) (by unfold maxLen; omega) (f1.trans (hsl.trans (by omega))) (f2.trans (del_take HQ4.out hxl (by omega) (by omega) (by omega))), ((((Only.refl (oneF g) w).drew).setRow' (.inl rfl) _).setRow' (.inl rfl) _)⟩
    simp only [List.length_append, List.length_take, List.length_drop]
    omega
set_option maxRecDepth 100000 in
set_option maxHeartbeats 1000000 in
theorem delPr_c {w : World} {base g n cap : Nat} {xs : List Value} (h : w.ownsRow base 60 2 (.slice (some ⟨g, 0, none⟩) (n + 1) cap) (n + 1) xs) (h1 : ∀ u ∈ xs, u.oneCell' = true) {i : Nat} (hi : i ≤ n) (hn : n ≤ 1000000) :
    Calls Try.prog 49 #[.slice (some ⟨g, 0, none⟩) (n + 1) cap, .int .i64 (i : Int), .int .i64 ((i + 1 : Nat) : Int)] w (DelRow base g 60 2 n cap i xs w) := by
  have hxl := h.1
  rcases h.2 with ⟨h2, _⟩ | ⟨g', cap', cur, he, hg, hh, m1, m2, q3, q4⟩
  · cases h2
  cases he
  obtain ⟨_, _, he, _, _, hr0⟩ := Reads.of_own h
  cases he
  have hrd := Reads.cut hr0 (k := i + 1) (cap := cap) (by omega) m1
  simp only [Option.map_some, Addr.add_lit, Nat.zero_add] at hrd
  rw [show n + 1 - (i + 1) = n - i by omega] at hrd
  have hb : ((i : Int) == (i : Int) + 1) = false := by simp; omega
  have hb2 : ((i : Int) == ((i + 1 : Nat) : Int)) = false := by simp; omega
  unfold maxLen at m2
  have hbk : Blk w.drew g 60 (cur.toList).toArray := by rw [Array.toArray_toList]; exact hh
  obtain ⟨ti, hti, hz0, hz1, hz2⟩ := info_parts info_Pr
  have happ := fun ty : TypeId => run_append_blk (P := Try.prog) (w := w.drew) (ty := ty) Try.underlying23 hti hz1 hbk i (n - i) cap _ (cap - (i + 1)) _ (hrd.only ((Only.refl NoF w).drew) fun _ _ h => h) (fun u hu => h1 u (List.mem_of_mem_drop hu)) (by omega) (by simp only [Array.length_toList]; omega)
  rw [show i + (n - i) = n by omega] at happ
  have hsl : (splice cur.toList (i * 2) (xs.drop ((i + 1) * 2))).length = cap * 2 := by
    rw [length_splice (by simp only [List.length_drop, Array.length_toList]; omega)]
    simpa using q3
  have hb1 := hbk.setRow_ (splice cur.toList (i * 2) (xs.drop ((i + 1) * 2))).toArray
  obtain ⟨cs', hcl, hl', ht'⟩ := run_clear_row (P := Try.prog) Try.underlying23 (fun w => zeroPr w) (by decide) hb1 (n * 2) 1 (cap - n) (by show n * 2 + 1 * 2 ≤ _; omega) (by omega)
  have hb3 : ((i : Int) == (n : Int) + 1) = false := by simp; omega
  have hci : i ≤ cap := by omega
  have hc0 : (0 : Int) ≤ (i : Int) + 1 := by omega
  have hcn : ¬ cap = n := by omega
  have HCL := Lib.hid hcl
  have HAP := Lib.hid happ
  have HFIN := Lib.hid (And.intro hl' ht')
  have HSL := Lib.hid hsl
  have HB1 := Lib.hid hb1
  have HXL := Lib.hid hxl
  have HQ4 := Lib.hid q4
  have HQ3 := Lib.hid q3
  have HG := Lib.hid hg
  clear hcl happ hl' ht' hsl hb1 hbk hrd hr0 h hh hxl q4 q3 hg hti hz0 hz1 hz2 h1
  go_enter Try.func49, Try.ntmps49
  go_wp2_with fail
  refine wp_region_reads [0, 1, 2, 3, 4, 5] [6, 7] (fun _ _ => True) (by kernel_rfl) (by kernel_rfl) (fun _ _ _ _ _ h => h) trivial ?_
  iterate 6
    refine wpReads_cons rfl ?_ (by rfl) (fun w' k hk hS => ?_) ?_
    rotate_left
    · go_simp
      first | with_reducible rfl | (rw [if_pos hci]; with_reducible rfl) | (rw [if_pos hc0]; with_reducible rfl)
    try go_simp
  refine wpReads_nil ?_
  refine wpTail_run rfl rfl (run_op_append rfl rfl rfl (HAP.out _)) trivial ?_
  go_simp
  refine wpTail_run rfl rfl (by go_simp; first | with_reducible rfl | exact ⟨rfl, rfl⟩) trivial ?_
  go_simp
  refine wpTail_nil ?_
  have hcl := HCL.out
  go_wp2
  all_goals
    go_ret
    obtain ⟨f1, f2⟩ := HFIN.out
    have hsl := HSL.out
    have hxl := HXL.out
    refine ⟨rfl, own_of_blk (HB1.out.setRow_ cs'.toArray) HG.out ?_ (by omega) (by unfold maxLen; omega) (f1.trans (hsl.trans (by omega))) (f2.trans (del_take HQ4.out hxl (by omega) (by omega) (by omega))), ((((Only.refl (oneF g) w).drew).setRow' (.inl rfl) _).setRow' (.inl rfl) _)⟩
    simp only [List.length_append, List.length_take, List.length_drop]
    omega
end Go.Proofs.Ytocbfobakmieoaa
