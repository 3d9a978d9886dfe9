/-
  The link's with, at, Send and Double, walked. Condition: at most 1,000,000 elements.
-/
import Derived.Test.YtocbfobakmieoaaLkW3
namespace Go.Proofs.Ytocbfobakmieoaa
set_option linter.unusedVariables false
set_option linter.unusedSimpArgs false
set_option linter.unusedSectionVars false
open Go.RowKit

theorem reads_made (w : World) (t : TypeId) (size n : Nat) (cs : List Value) (hl : cs.length = n * size) : Reads (w.alloc (.cells cs.toArray t)) (fun k => k = w.heap.size) size (some ⟨w.heap.size, 0, none⟩) n cs := by
  refine ⟨hl, fun _ => ⟨_, rfl, rfl, by simp, fun j u hu => ?_⟩⟩
  rw [Addr.add_lit, (Blk.new w t cs.toArray).cell]
  simpa using hu
theorem reads_made2 (w : World) (o : Obj) (t : TypeId) (size n : Nat) (cs : List Value) (hl : cs.length = n * size) : Reads ((w.alloc o).alloc (.cells cs.toArray t)) (fun k => k = w.heap.size + 1) size (some ⟨w.heap.size + 1, 0, none⟩) n cs := by
  have h := reads_made (w.alloc o) t size n cs hl
  have e : (w.alloc o).heap.size = w.heap.size + 1 := by simp
  rwa [e] at h
theorem own_grown {w w' : World} {row : Option Nat} {base : Nat} {e : TypeId} {size n : Nat} {v : Value} {xs : List Value} (h : w.ownsRow base e size v n xs) (hg : w.grownBy w' row) (hF : ∀ k, v.ownBlock = some k → some k ≠ row) : w'.ownsRow base e size v n xs := by
  obtain ⟨h1, h2⟩ := h
  refine ⟨h1, ?_⟩
  rcases h2 with h2 | ⟨g, cap, cur, hv, hg', hh, r⟩
  · exact .inl h2
  · exact .inr ⟨g, cap, cur, hv, hg', by rw [hg.block g (heap_lt hh) (hF g (by rw [hv]; rfl))]; exact hh, r⟩
theorem own_ne {w : World} {base base' : Nat} {e e' : TypeId} {size size' n n' : Nat} {v v' : Value} {xs xs' : List Value} (h : w.ownsRow base e size v n xs) (h' : w.ownsRow base' e' size' v' n' xs') (he : e ≠ e') : ∀ k, v.ownBlock = some k → some k ≠ v'.ownBlock := by
  intro k hk hk'
  rcases h.2 with ⟨h2, _⟩ | ⟨g, cap, cur, rfl, _, hh, _⟩
  · rw [h2] at hk; cases hk
  · rcases h'.2 with ⟨h2, _⟩ | ⟨g', cap', cur', rfl, _, hh', _⟩
    · rw [h2] at hk'; cases hk'
    · obtain rfl : g = k := by simpa [Value.ownBlock] using hk
      obtain rfl : g = g' := by simpa [Value.ownBlock] using hk'
      rw [hh] at hh'
      simp at hh'
      exact he hh'.2
theorem own_blk_ne {w : World} {base g : Nat} {e t : TypeId} {size n : Nat} {v : Value} {xs : List Value} {cs : Array Value} (h : w.ownsRow base e size v n xs) (hb : Blk w g t cs) (he : e ≠ t) : v.ownBlock ≠ some g := by
  intro hk
  rcases h.2 with ⟨h2, _⟩ | ⟨g', cap, cur, rfl, _, hh, _⟩
  · rw [h2] at hk; cases hk
  · obtain rfl : g' = g := by simpa [Value.ownBlock] using hk
    have hb' := hh.symm.trans hb
    simp at hb'
    exact he hb'.2
section
variable {P : Program}
theorem results_row_tmp {fn : Func} {p u : Tmp} {ty : TypeId} (h : fn.results = #[.cell p ty, .tmp u]) (tmps : Array Value) (w : World) (g : Nat) (t : TypeId) (cs : Array Value) (fr : Nat × Nat) (d : TypeDesc)
    (hp : tmps.getD p undef = .pointer (some ⟨g, 0, none⟩)) (hg : w.heap[g]? = some (.cells cs t fr))
    (hu : P.underlying ty = some d) (hd : (match d with | .struct _ | .array _ _ => true | _ => false) = true) (hi : (P.info? ty).map (·.size) = some cs.size) :
    (results fn tmps).run P w = .ok (.tuple #[.agg cs, tmps.getD u undef]) w := by
  have hp' : tmps[p]?.getD undef = .pointer (some ⟨g, 0, none⟩) := by simpa using hp
  simp [results, h, hp', asAddr, Sem.run_bind, run_loadVar_row w g t ty cs fr d hg hu hd hi]
theorem results_row_row_tmp {fn : Func} {p q u : Tmp} {ty ty2 : TypeId} (h : fn.results = #[.cell p ty, .cell q ty2, .tmp u]) (tmps : Array Value) (w : World) (g g2 : Nat) (t t2 : TypeId) (cs cs2 : Array Value) (fr fr2 : Nat × Nat) (d d2 : TypeDesc)
    (hp : tmps.getD p undef = .pointer (some ⟨g, 0, none⟩)) (hg : w.heap[g]? = some (.cells cs t fr))
    (hu : P.underlying ty = some d) (hd : (match d with | .struct _ | .array _ _ => true | _ => false) = true) (hi : (P.info? ty).map (·.size) = some cs.size)
    (hp2 : tmps.getD q undef = .pointer (some ⟨g2, 0, none⟩)) (hg2 : w.heap[g2]? = some (.cells cs2 t2 fr2))
    (hu2 : P.underlying ty2 = some d2) (hd2 : (match d2 with | .struct _ | .array _ _ => true | _ => false) = true) (hi2 : (P.info? ty2).map (·.size) = some cs2.size) :
    (results fn tmps).run P w = .ok (.tuple #[.agg cs, .agg cs2, tmps.getD u undef]) w := by
  have hp' : tmps[p]?.getD undef = .pointer (some ⟨g, 0, none⟩) := by simpa using hp
  have hp2' : tmps[q]?.getD undef = .pointer (some ⟨g2, 0, none⟩) := by simpa using hp2
  simp [results, h, hp', hp2', asAddr, Sem.run_bind, run_loadVar_row w g t ty cs fr d hg hu hd hi, run_loadVar_row w g2 t2 ty2 cs2 fr2 d2 hg2 hu2 hd2 hi2]
theorem results_row_tmp2 {fn : Func} {p u x : Tmp} {ty : TypeId} (h : fn.results = #[.cell p ty, .tmp u, .tmp x]) (tmps : Array Value) (w : World) (g : Nat) (t : TypeId) (cs : Array Value) (fr : Nat × Nat) (d : TypeDesc)
    (hp : tmps.getD p undef = .pointer (some ⟨g, 0, none⟩)) (hg : w.heap[g]? = some (.cells cs t fr))
    (hu : P.underlying ty = some d) (hd : (match d with | .struct _ | .array _ _ => true | _ => false) = true) (hi : (P.info? ty).map (·.size) = some cs.size) :
    (results fn tmps).run P w = .ok (.tuple #[.agg cs, tmps.getD u undef, tmps.getD x undef]) w := by
  have hp' : tmps[p]?.getD undef = .pointer (some ⟨g, 0, none⟩) := by simpa using hp
  simp [results, h, hp', asAddr, Sem.run_bind, run_loadVar_row w g t ty cs fr d hg hu hd hi]
end

theorem Blk.new3 (w : World) (o o2 : Obj) (t : TypeId) (cs : Array Value) : Blk (((w.alloc o).alloc o2).alloc (.cells cs t)) (w.heap.size + 1 + 1) t cs := by
  have h := Blk.new2 (w.alloc o) o2 t cs
  have e : (w.alloc o).heap.size + 1 = w.heap.size + 1 + 1 := by simp
  rwa [e] at h

def AirOk (a : Air) : Prop := (∀ m ∈ a.ms, MsgOk m) ∧ ∀ p ∈ a.cs, I64 p.x ∧ I64 p.y
def AirTo (w : World) (r : Air × Int) (e : Ending) (w' : World) : Prop := ∃ v', e = .returned (.tuple #[v', .int .i64 r.2]) ∧ OwnAir w.heap.size w' v' r.1 ∧ AirOk r.1 ∧ Only NoF w w'
theorem ownNone (base : Nat) (w : World) : OwnAir base w (.agg #[.slice none 0 0, .slice none 0 0]) Lnk.none_ := ⟨_, _, rfl, World.ownsRow_nil _ _ _ _, World.ownsRow_nil _ _ _ _⟩
theorem okNone : AirOk Lnk.none_ := ⟨(fun m h => by cases h), (fun m h => by cases h)⟩

section
variable {w : World} {v : Value}
set_option maxRecDepth 100000 in
set_option maxHeartbeats 1000000 in
theorem nwith_c {a : Air} (h : AirV w v a) (hf : Few_ a) {m : Msg} (hm : MsgOk m) : Calls Try.prog 36 #[v, msgV m] w (AirTo w (Lnk.with_ a m)) := by
  have H := Lib.hid h
  have HO := Lib.hid (AirV.oks h)
  obtain ⟨v1, v2, rfl, hm0, hc0⟩ := h
  obtain ⟨A1, c1, rfl, m1, m2⟩ := SliceOf.shape hm0
  obtain ⟨A2, c2, rfl, n1, n2⟩ := SliceOf.shape hc0
  have HM := Lib.hid hm
  clear hm0 hc0 hm
  unfold maxLen at m2 n2
  by_cases hl : (1000 : Int) ≤ (a.ms.length : Int)
  · have e : Lnk.with_ a m = (Lnk.none_, 6) := by unfold Lnk.with_; rw [if_pos (by omega)]
    rw [e]
    clear e
    go_enter Try.func36, Try.ntmps36
    go_wp2
    refine bodyPost_ret (results_row_tmp rfl _ _ (w.heap.size + 1 + 1) 25 #[.slice none 0 0, .slice none 0 0] (0, 0) _ rfl ?_ Try.underlying25 rfl (by kernel_rfl)) rfl ?_
    · exact Blk.new3 w (.cells #[.slice A1 a.ms.length c1, .slice A2 a.cs.length c2] 25) (.cells #[.int .i64 m.a, .int .i64 m.b, strV m.t] 27) 25 #[.slice none 0 0, .slice none 0 0]
    · exact ⟨_, rfl, ownNone _ _, okNone, ((((Only.refl NoF w).alloc _).alloc _).alloc _)⟩
  · have e : Lnk.with_ a m = ({ a with ms := a.ms ++ [m] }, 0) := by unfold Lnk.with_; rw [if_neg (by omega)]
    rw [e]
    clear e
    have HCL := Lib.hid (fun (W : World) (hW : Only NoF w W) => nclone_c (AirV.keep H.out hW) hf)
    obtain ⟨ti, hti, hz0, hz1, hz2⟩ := info_parts info_Msg
    go_enter Try.func36, Try.ntmps36
    go_wp2_with fail
    have HW := Lib.hid (((((Only.refl NoF w).alloc (.cells #[.slice A1 a.ms.length c1, .slice A2 a.cs.length c2] 25)).alloc (.cells #[.int .i64 m.a, .int .i64 m.b, strV m.t] 27)).alloc (.cells #[.slice none 0 0, .slice none 0 0] 25)))
    refine (HCL.out _ HW.out).mono ?_
    rintro e w2 ⟨vv, rfl, ⟨b1, b2, rfl, r1, r2⟩, o1⟩
    have hs := o1.size
    simp only [World.size_alloc] at hs
    have p3 := ((((Blk.new2 w (.cells #[.slice A1 a.ms.length c1, .slice A2 a.cs.length c2] 25) 27 #[.int .i64 m.a, .int .i64 m.b, strV m.t]).alloc (.cells #[.slice none 0 0, .slice none 0 0] 25)).only o1 fun h => h))
    have p4 := (Blk.new3 w (.cells #[.slice A1 a.ms.length c1, .slice A2 a.cs.length c2] 25) (.cells #[.int .i64 m.a, .int .i64 m.b, strV m.t] 27) 25 #[.slice none 0 0, .slice none 0 0]).only o1 fun h => h
    have x0 := fun o : Obj => ((p3.alloc o).cell 0).trans rfl
    have x1 := fun o : Obj => ((p3.alloc o).cell 1).trans rfl
    have x2 := fun o : Obj => ((p3.alloc o).cell 2).trans rfl
    have P4 := Lib.hid p4
    have R1 := Lib.hid r1
    have R2 := Lib.hid r2
    have O1 := Lib.hid (HW.out.trans' o1)
    obtain ⟨B1, d1, rfl, _, _, _⟩ := Reads.of_own r1
    obtain ⟨B2, d2, rfl, _, _, _⟩ := Reads.of_own r2
    have hd := own_ne r2 r1 (by decide)
    have HD := Lib.hid hd
    clear p3 p4 r1 r2 o1 hd
    have n1' : ¬ w.heap.size + 1 = w2.heap.size := by omega
    have n2' : ¬ w.heap.size + 1 + 1 = w2.heap.size := by omega
    have HROW := Lib.hid (own_base (base' := w.heap.size + 1 + 1 + 1) R1.out (by simp only [World.size_alloc]; omega))
    have RM := Lib.hid fun o : Obj => (show Reads ((w2.alloc o).alloc (.cells #[.int .i64 m.a, .int .i64 m.b, strV m.t] 27)) (fun k => k = w2.heap.size + 1) 3 (some ⟨w2.heap.size + 1, 0, none⟩) 1 (msgCells [m]) from reads_made2 w2 o _ 3 1 (msgCells [m]) rfl)
    have HLO := Lib.hid fun k hk => HROW.out.lt k hk
    have HBS := Lib.hid fun o o' : Obj => (show w.heap.size + 1 + 1 + 1 ≤ ((w2.alloc o).alloc o').heap.size by simp only [World.size_alloc]; omega)
    go_wp2_with (at_builtin; (refine wpList_append_any _ rfl (.tmp 15) (.tmp 17) _ rfl (w.heap.size + 1 + 1 + 1) 27 ti _ 3 32 Try.underlying22 hti hz0 hz1 hz2 rfl (by decide) (.slice B1 a.ms.length d1) _ _ rfl (own_keep HROW.out (((Only.refl NoF w2).alloc _).alloc _)) _ _ 1 1 _ rfl (RM.out _) (msgCells_one [m]) (by unfold maxLen; omega) (by omega) (HBS.out _ _) ?_); intro v' w3 hown hgrow hat; (have HG := Lib.hid hgrow); (have HOWN := Lib.hid hown); (have t4 := (((P4.out.alloc _).alloc _).grown hgrow fun e => by have := HLO.out _ e.symm; omega)); (have t6 := (((Blk.new w2 25 #[.slice B1 a.ms.length d1, .slice B2 a.cs.length d2]).alloc _).grown hgrow fun e => by have := HLO.out _ e.symm; omega)); (have u0 := t4.cell 0); (have u1 := t4.cell 1); (have u2 := t4.frozen 0); (have u3 := t4.frozen 1); (have y0 := t6.cell 0); (have y1 := t6.cell 1); (have y2 := t6.frozen 0); (have y3 := t6.frozen 1); (have T4 := Lib.hid t4); (have T6 := Lib.hid t6); obtain ⟨E1, e1, rfl, _, _, _⟩ := Reads.of_own hown; clear hown hgrow hat t4 t6)
    refine bodyPost_ret (results_row_tmp rfl _ _ (w.heap.size + 1 + 1) 25 #[.slice E1 (a.ms.length + 1) e1, .slice B2 a.cs.length d2] (0, 0) _ rfl ?_ Try.underlying25 rfl (by kernel_rfl)) rfl ?_
    · exact (((T4.out.far (p := ⟨w2.heap.size, 0, none⟩) n2' _).set_ 0 (.slice E1 (a.ms.length + 1) e1)).set_ 1 (.slice B2 a.cs.length d2))
    · have R2' := own_grown (own_keep R2.out (((Only.refl NoF w2).alloc _).alloc _)) HG.out HD.out
      have q1 := own_blk_ne HOWN.out T6.out (by decide)
      have q2 := own_blk_ne HOWN.out T4.out (by decide)
      have q3 := own_blk_ne R2' T6.out (by decide)
      have q4 := own_blk_ne R2' T4.out (by decide)
      have z1 := ownsRow_setCell_other (ownsRow_setCell_other (ownsRow_setCell_other HOWN.out (a := ⟨w2.heap.size, 0, none⟩) q1 (.slice E1 (a.ms.length + 1) e1)) (a := ⟨w.heap.size + 1 + 1, 0, none⟩) q2 (.slice E1 (a.ms.length + 1) e1)) (a := ⟨w.heap.size + 1 + 1, 1, none⟩) q2 (.slice B2 a.cs.length d2)
      have z2 := ownsRow_setCell_other (ownsRow_setCell_other (ownsRow_setCell_other R2' (a := ⟨w2.heap.size, 0, none⟩) q3 (.slice E1 (a.ms.length + 1) e1)) (a := ⟨w.heap.size + 1 + 1, 0, none⟩) q4 (.slice E1 (a.ms.length + 1) e1)) (a := ⟨w.heap.size + 1 + 1, 1, none⟩) q4 (.slice B2 a.cs.length d2)
      rw [← msgCells_append] at z1
      have os := O1.out.size
      refine ⟨_, rfl, ⟨_, _, rfl, by rw [show (a.ms ++ [m]).length = a.ms.length + 1 by simp]; exact own_base z1 (by omega), own_base z2 (by simp only [World.size_alloc]; omega)⟩, ⟨fun x hx => ?_, HO.out.2⟩, ?_⟩
      · rcases List.mem_append.1 hx with hx | hx
        · exact HO.out.1 x hx
        · simp at hx; rw [hx]; exact HM.out
      · refine ((((((O1.out.alloc _).alloc _).grown HG.out fun k hk => .inr ?_).setCell (.inr ?_) _).setCell (.inr ?_) _).setCell (.inr ?_) _)
        · have := HLO.out k hk; omega
        · exact os
        · show _ ≤ w.heap.size + 1 + 1; omega
        · show _ ≤ w.heap.size + 1 + 1; omega
end
end Go.Proofs.Ytocbfobakmieoaa
