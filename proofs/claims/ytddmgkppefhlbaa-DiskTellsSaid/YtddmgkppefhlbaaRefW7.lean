/-
  The reference's disk, walked: Crash.
-/
import Derived.Test.YtddmgkppefhlbaaRefW6
import Derived.Test.YtddmgkppefhlbaaDskW7
namespace Go.Proofs.Ytddmgkppefhlbaa
set_option linter.unusedVariables false
set_option linter.unusedSimpArgs false
set_option linter.unusedSectionVars false
open Go.RowKit

def crashd (y : Int × Str × Str) : Int × Str × Str := (y.1, y.2.2, y.2.2)
theorem rlook_crashd (f : Int) : ∀ l : List (Int × Str × Str), rlook f (l.map crashd) = ((rlook f l).2, (rlook f l).2)
  | [] => rfl
  | y :: l => by
    simp only [List.map_cons, rlook, crashd]
    split
    · rfl
    · exact rlook_crashd f l
theorem map_crashd_keys (l : List (Int × Str × Str)) : (l.map crashd).map (·.1) = l.map (·.1) := by simp [List.map_map, crashd, Function.comp_def]
def Dsk.fin (E : Dsk) : Dsk := { E with file := fun f => ((E.file f).2, (E.file f).2), queue := [] }
theorem Dsk.Ok.fin {E : Dsk} (h : E.Ok) : E.fin.Ok :=
  { h with lens := fun f => ⟨(h.lens f).2, (h.lens f).2⟩, out := fun f hf => by simp [Dsk.fin, h.out f hf], q := by simp [Dsk.fin], nodup := by simp [Dsk.fin] }
theorem rcrash_eq (D : Dsk) (keep : List Int) (i : Nat) (hd : D.down = false) (hi : i = D.queue.length ∨ keep = []) : D.crash keep = (D.crashing keep i).fin := by
  have hf : Dsk.crashF keep 0 (D.queue.take i) D.file = Dsk.crashF keep 0 D.queue D.file := by
    rcases hi with rfl | rfl
    · rw [List.take_length]
    · have : ∀ (q : List (Int × Int)) (j : Nat) (g : Int → Str × Str), Dsk.crashF [] j q g = g := by
        intro q
        induction q with
        | nil => intro j g; rfl
        | cons p q ih => intro j g; simp [Dsk.crashF, Dsk.survives, ih]
      rw [this, this]
  unfold Dsk.crash Dsk.fin Dsk.crashing
  rw [hd, if_neg (by simp)]
  simp only [hf]

section
variable {w : World} {b : Nat} {D : Dsk} {F : Foot}

theorem rcrash_fin {x : RWit} {w5 : World} (h : IsRefW w b D x) (hb : Below w.heap.size w w5) {A : Option Addr} {c : Nat}
    (hown : w5.ownsRow w.heap.size 65 3 (.slice A x.fl.length c) x.fl.length (fileCells (x.fl.map crashd))) :
    RefTo w b (x.foot b) D.fin ((w5.setCell ⟨b, 0, none⟩ (.slice A x.fl.length c)).setCell ⟨b, 1, none⟩ (.slice none 0 0)) := by
  have h5 := h.only (Only.of_below (F := NoF) hb (Nat.le_refl _)) fun _ _ h => h
  obtain ⟨a1, a2, a3⟩ := h5.apart
  have ho : Only (oneF b) w5 ((w5.setCell ⟨b, 0, none⟩ (.slice A x.fl.length c)).setCell ⟨b, 1, none⟩ (.slice none 0 0)) := ((Only.refl (oneF b) w5).setCell (p := ⟨b, 0, none⟩) (.inl rfl) _).setCell (p := ⟨b, 1, none⟩) (.inl rfl) _
  have hbl := h.blk.lt
  have hI : IsRefW ((w5.setCell ⟨b, 0, none⟩ (.slice A x.fl.length c)).setCell ⟨b, 1, none⟩ (.slice none 0 0)) b D.fin { x with fv := .slice A x.fl.length c, q := .slice none 0 0, fl := x.fl.map crashd } := {
    blk := (h5.blk.set_ 0 _).set_ 1 _
    fo := by
      simp only [List.length_map]
      exact own_only (own_base hown (Nat.zero_le _)) ho fun k hk e => by
        have := (hown.lt k hk).1
        have e' : k = b := e
        omega
    own := World.ownsRow_nil _ _ _ _
    kpo := own_only h5.kpo ho fun k hk => (a3 k hk).1
    abs := fun g => by
      rw [rlook_crashd, h.abs]
      rfl
    keys := by rw [map_crashd_keys]; exact h.keys
    fkey := fun z hz => by
      obtain ⟨y, hy, rfl⟩ := List.mem_map.1 hz
      exact h.fkey y hy
    ok := h.ok.fin }
  refine hI.to (((Only.of_below (F := (x.foot b).m) hb (Nat.le_refl _)).setCell (p := ⟨b, 0, none⟩) (.inl (.inl rfl)) _).setCell (p := ⟨b, 1, none⟩) (.inl (.inl rfl)) _) rfl fun k hk => ?_
  rcases hk with hk | hk | hk
  · exact .inl (.inl hk)
  · exact .inr (hown.lt k hk).1
  · simp [Value.ownBlock] at hk

theorem fileCells_crashd (l : List (Int × Str × Str)) (k : Nat) (hk : k < l.length) : fileCells ((l.take (k + 1)).map crashd) = fileCells ((l.take k).map crashd) ++ [.int .i64 l[k].1, strV l[k].2.2, strV l[k].2.2] := by
  rw [List.take_succ_eq_append_getElem hk, List.map_append, fileCells_append]
  rfl

set_option maxRecDepth 100000 in
set_option maxHeartbeats 4000000 in
theorem rCrash_up (h : IsRef w b D F) (hd : D.down = false) {S : Nat → Prop} {keep : List Int} (Ak : Option Addr) (ck : Nat) (hr : Reads w S 1 Ak keep.length (keep.map (Value.int .i64))) (hl : keep.length ≤ 1000) (hS : ∀ k, S k → ¬ F.m k) :
    Calls Try.prog 36 #[.pointer (some ⟨b, 0, none⟩), .slice Ak keep.length ck] w fun e w' => e = .returned (.tuple #[]) ∧ RefTo w b F (D.crash keep) w' := by
  obtain ⟨x, h, hF⟩ := h
  obtain ⟨_, _, _, d3, d4, _⟩ := h.cells
  rw [hd] at d3
  have z3 := h.blk.frozen 3
  have z4 := h.blk.frozen 4
  have hql := h.ok.qlen
  have h1 : IsRefW ((w.setCell ⟨b, 3, none⟩ (.bool true)).setCell ⟨b, 4, none⟩ (.int .i64 0)) b (D.crashing keep 0) x :=
    (h.store (D' := { D with down := true }) 3 (.bool true) rfl rfl rfl rfl { h.ok with }).store (D' := D.crashing keep 0) 4 (.int .i64 0) rfl rfl rfl rfl (h.ok.crashing keep 0)
  have H1 := Lib.hid (show RefTo w b F (D.crashing keep 0) ((w.setCell ⟨b, 3, none⟩ (.bool true)).setCell ⟨b, 4, none⟩ (.int .i64 0)) from
    h1.to (((Only.refl F.m w).setCell (p := ⟨b, 3, none⟩) (.inl (by rw [hF]; exact .inl rfl)) _).setCell (p := ⟨b, 4, none⟩) (.inl (by rw [hF]; exact .inl rfl)) _) hF fun k hk => .inl hk)
  have HRD := Lib.hid (fun (w' : World) (ho : Only F.m w w') => hr.only ho hS)
  have HD := Lib.hid hd
  have HOK := Lib.hid h.ok
  clear h h1 hF hr hS hd
  go_enter Try.func36, Try.ntmps36
  go_wp2_with fail
  clear d3 d4 z3 z4
  go_loopw [4] (fun v wr => ∃ i : Nat, i ≤ D.queue.length ∧ v = .int .i64 (i : Int) ∧ (keep = [] → i = 0) ∧ RefTo w b F (D.crashing keep i) wr) (fun v _ => D.queue.length - (intOf v).toNat)
  case atStart => exact ⟨0, by omega, by go_num, fun _ => rfl, H1.out⟩
  case round =>
    obtain ⟨i, hi, rfl, hk0, hR⟩ := hrel
    have HR := Lib.hid hR
    have HK0 := Lib.hid hk0
    clear hR hk0
    obtain ⟨Fi, ⟨xi, hxi, hFi⟩, hOi, hFi2, hFi3⟩ := HR.out
    have HX := Lib.hid hxi
    have HFI := Lib.hid (And.intro hFi (And.intro hOi (And.intro hFi2 hFi3)))
    obtain ⟨Aq, cq, eq_, _, _, hrq⟩ := Reads.of_own hxi.own
    obtain ⟨_, d1, _⟩ := hxi.cells
    rw [eq_] at d1
    have hqe : (D.crashing keep i).queue = D.queue := rfl
    rw [hqe] at d1 hrq
    have HRQ := Lib.hid hrq
    clear hrq hxi hFi hOi hFi2 hFi3 eq_ hqe
    by_cases hgo : i < D.queue.length ∧ 0 < keep.length
    · obtain ⟨hlt, hkp⟩ := hgo
      obtain ⟨g, off, rfl, _, hg, hcc⟩ := HRQ.out.form (by omega) (by decide)
      obtain ⟨c0, c1⟩ := secCells_get D.queue i hlt
      have q0 := hcc _ _ c0
      have q1 : wr.cell? ⟨g, off + i * 2 + 1, none⟩ = _ := hcc _ _ c1
      obtain ⟨gk, offk, rfl, _, hgk, hck⟩ := (HRD.out wr HFI.out.2.1).form hkp (by decide)
      have hj : i % keep.length < keep.length := Nat.mod_lt _ hkp
      have ck0 := hck (i % keep.length) (.int .i64 keep[i % keep.length]) (by simp [hj])
      have hkne : ¬ keep.length = 0 := by omega
      have hbit := bits_1 keep[i % keep.length]
      have hk0 : keep ≠ [] := by intro e; rw [e] at hkp; simp at hkp
      have hsv : Dsk.survives keep i = decide (keep[i % keep.length] % 2 = 1) := by simp [Dsk.survives, hk0, hj]
      generalize hkv : keep[i % keep.length] = kv at ck0 hbit hsv
      have HKN := Lib.hid hk0
      have hqi := HOK.out.q D.queue[i] (List.getElem_mem hlt)
      have hsucc := Dsk.crashing_succ D keep i hlt
      clear hcc c0 c1 hck hk0
      by_cases hodd : kv % 2 = 1
      · rw [hodd] at hbit
        rw [hsv, decide_eq_true hodd, if_pos rfl] at hsucc
        have HSU := Lib.hid hsucc
        have HSV := Lib.hid (rsurvive_c ⟨xi, HX.out, rfl⟩ D.queue[i].1 D.queue[i].2 hqi.1 hqi.2.1 hqi.2.2.1 hqi.2.2.2)
        clear hsucc hsv hodd
        go_wp2_with fail
        refine HSV.out.mono ?_
        rintro e w2 ⟨rfl, h2⟩
        have R2 := Lib.hid (RefTo.trans HFI.out.2.1 HFI.out.2.2.1 HFI.out.2.2.2 (by rw [HFI.out.1]; exact h2))
        clear h2
        go_wp2_with fail
        go_roundw
        case rel => exact ⟨i + 1, by omega, by go_num, fun e => absurd e HKN.out, by rw [HSU.out]; exact R2.out⟩
        case measure => simp [intOf]; omega
      · have hev : kv % 2 = 0 := by omega
        rw [hev] at hbit
        rw [hsv, decide_eq_false hodd, if_neg (by simp)] at hsucc
        have HSU := Lib.hid hsucc
        clear hsucc hsv hodd hev
        go_wp2_with fail
        go_roundw
        case rel => exact ⟨i + 1, by omega, by go_num, fun e => absurd e HKN.out, by rw [HSU.out]; exact HR.out⟩
        case measure => simp [intOf]; omega
    · have hcf := rcrash_eq D keep i HD.out (by
        by_cases h : i < D.queue.length
        · exact .inr (List.eq_nil_of_length_eq_zero (by omega))
        · exact .inl (by omega))
      have HCF := Lib.hid hcf
      have hgo2 : ¬ ((i : Int) < (D.queue.length : Int)) ∨ ((i : Int) < (D.queue.length : Int) ∧ ¬ (0 < (keep.length : Int))) := by omega
      obtain ⟨Af, cf, ef, _, _, hrf⟩ := Reads.of_own HX.out.fo
      have hfl := HX.out.len
      obtain ⟨d0, _⟩ := HX.out.cells
      rw [ef] at d0
      have hbl := HX.out.blk.lt
      have z0 := HX.out.blk.frozen 0
      have z1 := HX.out.blk.frozen 1
      have HRF := Lib.hid hrf
      obtain ⟨ti, hti, hz0, hz1, hz2⟩ := info_parts info_RFile
      clear hcf hgo hrf ef
      rcases hgo2 with hga | ⟨hga, hgb⟩
      all_goals
        go_wp2_with fail
        rename World => wo
        go_loopw [5, 6] (fun v i wr => ∃ k : Nat, k ≤ xi.fl.length ∧ i = .int .i64 (k : Int) ∧ wr.ownsRow wo.heap.size 65 3 v k (fileCells ((xi.fl.take k).map crashd)) ∧ Below wo.heap.size wo wr) (fun _ i _ => xi.fl.length - (intOf i).toNat)
        case atStart => exact ⟨0, by omega, by go_num, by simpa [fileCells] using World.ownsRow_nil _ _ _ _, Below.refl _ _⟩
        case round =>
          obtain ⟨k, hkk, rfl, hown, hB⟩ := hrel
          have e0 := (hB.cell (p := ⟨b, 0, none⟩) hbl).trans d0
          have e1 := (hB.cell (p := ⟨b, 1, none⟩) hbl).trans d1
          have e8 := (hB.frozen (p := ⟨b, 0, none⟩) hbl).trans z0
          have e9 := (hB.frozen (p := ⟨b, 1, none⟩) hbl).trans z1
          have hwb := hB.size
          have HB := Lib.hid hB
          have HOWN := Lib.hid hown
          obtain ⟨Av, cv, rfl, hv1, hv2, _⟩ := Reads.of_own hown
          clear hB hown
          by_cases hlt : k < xi.fl.length
          · obtain ⟨g, off, rfl, _, hg, hcc⟩ := HRF.out.form (by omega) (by decide)
            obtain ⟨c0, c1, c2⟩ := fileCells_get xi.fl k hlt
            have q0 : wr.cell? ⟨g, off + k * 3, none⟩ = _ := (HB.out.cell (p := ⟨g, off + k * 3, none⟩) hg).trans (hcc _ _ c0)
            have q2 : wr.cell? ⟨g, off + k * 3 + 2, none⟩ = _ := (HB.out.cell (p := ⟨g, off + k * 3 + 2, none⟩) hg).trans (hcc _ _ c2)
            have hgw : g < wr.heap.size := by omega
            have hbw : b < wr.heap.size := by omega
            have R0 := Lib.hid (hcc _ _ c0)
            have r2 : wo.cell? ⟨g, off + k * 3 + 2, none⟩ = some (strV xi.fl[k].2.2) := hcc _ _ c2
            have R2 := Lib.hid r2
            clear c0 c1 c2 hcc r2
            go_wp2_with fail
            refine wp_region_reads [0, 1, 2, 3, 4, 5, 6, 7, 8, 9, 10, 11, 12, 13, 14, 15, 16, 17, 18, 19, 20, 21, 22, 23, 24, 25] [26, 27, 28] (fun _ w' => w'.cell? ⟨b, 0, none⟩ = some (.slice (some ⟨g, off, none⟩) xi.fl.length cf) ∧ w'.cell? ⟨g, off + k * 3, none⟩ = some (.int .i64 xi.fl[k].1) ∧ w'.cell? ⟨g, off + k * 3 + 2, none⟩ = some (strV xi.fl[k].2.2)) (by kernel_rfl) (by kernel_rfl) (fun _ _ _ _ _ h => h) ⟨e0, q0, q2⟩ ?_
            iterate 26
              refine wpReads_cons rfl ?_ (by rfl) (fun w' k hk hS => ?_) ?_
              rotate_left
              · obtain ⟨s0, s1, s2⟩ := hS
                go_simp
                with_reducible rfl
              try go_simp
            refine wpReads_nil ?_
            refine wpTail_run rfl rfl (by go_simp; exact ⟨rfl, rfl⟩) ⟨by go_simp, by go_simp, by go_simp⟩ ?_
            try go_simp
            refine wpTail_cons rfl rfl (wp_append_any _ _ _ _ rfl wo.heap.size 65 ti _ 3 40 Try.underlying57 hti hz0 hz1 hz2 rfl (by decide) (.slice Av k cv) _ _ rfl (own_only HOWN.out (((Only.refl NoF wr).alloc _).drew) fun _ _ h => h) _ _ 1 1 _ rfl ((reads_made wr 65 3 1 [.int .i64 xi.fl[k].1, strV xi.fl[k].2.2, strV xi.fl[k].2.2] rfl).only ((Only.refl NoF _).drew) fun _ _ h => h) ?_ ?_ ?_ ?_ ?_)
            · intro u hu
              simp at hu
              rcases hu with rfl | rfl | rfl <;> rfl
            · unfold maxLen
              omega
            · omega
            · simp
              omega
            intro v' w4 hown4 hg4 hat
            have hOW : ∀ j, (Value.slice Av k cv).ownBlock = some j → wo.heap.size ≤ j := fun j hj => (HOWN.out.lt j hj).1
            have hG2 := belowG (HB.out.alloc hwb (.cells #[.int .i64 xi.fl[k].1, strV xi.fl[k].2.2, strV xi.fl[k].2.2] 65)).drew hg4 (by simp; omega) fun j hj => hOW j hj
            have G1 := Lib.hid (show w4.ownsRow wo.heap.size 65 3 v' (k + 1) (fileCells ((xi.fl.take (k + 1)).map crashd)) by rw [fileCells_crashd _ _ hlt]; exact hown4)
            have s0 := (hG2.cell (p := ⟨b, 0, none⟩) hbl).trans d0
            have s1 := (hG2.cell (p := ⟨g, off + k * 3, none⟩) hg).trans R0.out
            have s2 := (hG2.cell (p := ⟨g, off + k * 3 + 2, none⟩) hg).trans R2.out
            have G2 := Lib.hid hG2
            clear hown4 hg4 hat hOW hG2
            refine ⟨⟨s0, s1, s2⟩, ?_⟩
            try go_simp
            refine wpTail_run rfl rfl (by go_simp; first | rfl | exact ⟨rfl, rfl⟩) ⟨s0, s1, s2⟩ ?_
            try go_simp
            refine wpTail_nil ?_
            clear s0 s1 s2 e0 e1 e8 e9 q0 q2
            go_wp2_with fail
            go_roundw
            case rel => exact ⟨k + 1, by omega, by go_num, G1.out, G2.out⟩
            case measure => simp [intOf]; omega
          · obtain rfl : k = xi.fl.length := by omega
            have HX2 := Lib.hid (show wr.ownsRow wo.heap.size 65 3 (.slice Av xi.fl.length cv) xi.fl.length (fileCells (xi.fl.map crashd)) by have := HOWN.out; rw [List.take_length] at this; exact this)
            clear HOWN
            go_wp2_with fail
            go_end0
            refine ⟨rfl, ?_⟩
            rw [HCF.out]
            exact RefTo.trans HFI.out.2.1 HFI.out.2.2.1 HFI.out.2.2.2 (by rw [HFI.out.1]; exact rcrash_fin HX.out HB.out HX2.out)

theorem rCrashR_c (h : IsRef w b D F) {S : Nat → Prop} {keep : List Int} (Ak : Option Addr) (ck : Nat) (hr : Reads w S 1 Ak keep.length (keep.map (Value.int .i64))) (hl : keep.length ≤ 1000) (hS : ∀ k, S k → ¬ F.m k) :
    Calls Try.prog 36 #[.pointer (some ⟨b, 0, none⟩), .slice Ak keep.length ck] w fun e w' => e = .returned (.tuple #[]) ∧ RefTo w b F (D.crash keep) w' := by
  cases hd : D.down with
  | false => exact rCrash_up h hd Ak ck hr hl hS
  | true =>
    have Hp := Lib.hid (show D.crash keep = D by simp [Dsk.crash, hd])
    have H := Lib.hid h
    obtain ⟨x, h, _⟩ := h
    obtain ⟨_, _, _, d3, _, _⟩ := h.cells
    rw [hd] at d3
    clear h hr hS hd
    go_enter Try.func36, Try.ntmps36
    go_wp2
    refine bodyPost_ret (results_none rfl _ _ _) rfl ?_
    rw [Hp.out]
    exact ⟨rfl, .same H.out⟩
theorem rCrash_c (h : IsRef w b D F) {S : Nat → Prop} {v : Value} {keep : List Int} (hk : Ints S w v keep) (hl : keep.length ≤ 1000) (hS : ∀ k, S k → ¬ F.m k) :
    Calls Try.prog 36 #[.pointer (some ⟨b, 0, none⟩), v] w fun e w' => e = .returned (.tuple #[]) ∧ RefTo w b F (D.crash keep) w' := by
  obtain ⟨Ak, ck, rfl, _, _, hr⟩ := hk.cells
  exact rCrashR_c h Ak ck hr hl hS
/-- a crash with what was laid by Arm -/
theorem rCrash_own {x : RWit} (h : IsRefW w b D x) : Calls Try.prog 36 #[.pointer (some ⟨b, 0, none⟩), x.kp] w fun e w' => e = .returned (.tuple #[]) ∧ RefTo w b (x.foot b) (D.crash D.keep) w' := by
  obtain ⟨A, c, e, _, _, hr⟩ := Reads.of_own h.kpo
  obtain ⟨a1, a2, a3⟩ := h.apart
  have := rCrashR_c ⟨x, h, rfl⟩ A c hr h.ok.keep fun k hk hm => by
    rcases hm with hm | hm | hm
    · exact (a3 k hk).1 hm
    · exact (a3 k hk).2.1 hm
    · exact (a3 k hk).2.2 hm
  rw [e]
  exact this
end
end Go.Proofs.Ytddmgkppefhlbaa
