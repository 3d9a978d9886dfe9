/-
  The disk's crash, walked.
-/
import Derived.Test.YtlnadcihnfppaaaGreatDoorDskW7
import Derived.Test.YtlnadcihnfppaaaGreatDoorBits
namespace Go.Proofs.YtlnadcihnfppaaaGreatDoor
set_option linter.unusedVariables false
set_option linter.unusedSimpArgs false
set_option linter.unusedSectionVars false
set_option maxRecDepth 20000
open Go.RowKit

attribute [local go_sem] MapAt_setCell MapAt.alloc MapAt_drew cell?_putMap MapAt_putMap size_putMap

section
variable {w : World} {b : Nat} {D : Dsk} {F : Foot}

set_option maxHeartbeats 6000000 in
set_option maxRecDepth 10000 in
theorem dCrash_up {x : DWit} (h : IsDiskW w b D x) (hd : D.down = false) (keep : List Int) (A : Option Addr) (ck : Nat) (S : Nat → Prop) (hk : Reads w S 1 A keep.length (keep.map (Value.int .i64))) (hkl : keep.length ≤ 1000000)
    (hS : ∀ k, S k → k ≠ b ∧ k ≠ x.mf ∧ k ≠ x.ms) :
    Calls Tryz.prog 20 #[.pointer (some ⟨b, 0, none⟩), .slice A keep.length ck] w fun e w' => e = .returned (.tuple #[]) ∧ DiskTo w b (x.foot b) (D.crash keep) w' := by
  have H := Lib.hid h
  have HK := Lib.hid hk
  obtain ⟨d0, d1, d2, d3, d4, d5, d6⟩ := h.cells
  rw [hd] at d4
  have z4 := h.blk.frozen 4
  have z5 := h.blk.frozen 5
  obtain ⟨Aq, cq, eq_, hcq, hcm, _⟩ := Reads.of_own h.own
  rw [eq_] at d1
  have hql := h.ok.qlen
  have hbl := h.blk.lt
  have HS := Lib.hid hS
  clear hS h hk
  go_enter Tryz.func20, Tryz.ntmps20
  go_wp2
  have HD0 : IsDiskW ((w.setCell ⟨b, 4, none⟩ (.bool true)).setCell ⟨b, 5, none⟩ (.int .i64 0)) b (D.crashing keep 0) { x with fl := x.fl, fc := x.fc } :=
    (H.out.store (D' := { D with down := true }) 4 (.bool true) rfl rfl rfl rfl { H.out.ok with }).store (D' := D.crashing keep 0) 5 (.int .i64 0) rfl rfl rfl rfl (H.out.ok.crashing keep 0)
  have HD0' := Lib.hid HD0
  clear HD0 d0 d1 d2 d3 d4 d5 d6 z4 z5
  go_loopw [25] (fun v wr => ∃ (i : Nat) (fl : List (Int × (Str × Str) × Nat)) (fc : Nat), i ≤ D.queue.length ∧ v = .int .i64 (i : Int) ∧ IsDiskW wr b (D.crashing keep i) { x with fl := fl, fc := fc } ∧ Only (fun k => k = b ∨ k = x.mf) w wr) (fun v _ => D.queue.length - (intOf v).toNat)
  case atStart => exact ⟨0, x.fl, x.fc, by omega, by go_num, HD0'.out, ((Only.refl _ w).setCell (.inl (.inl rfl)) _).setCell (.inl (.inl rfl)) _⟩
  case round =>
    obtain ⟨i, fl, fc, hi, rfl, hD, hO⟩ := hrel
    have HD := Lib.hid hD
    have HO := Lib.hid hO
    clear hD hO
    by_cases hlt : i < D.queue.length
    · have hrq := Reads.own (by rw [← eq_]; exact HD.out.own : wr.ownsRow 0 76 2 (.slice Aq D.queue.length cq) D.queue.length (secCells D.queue))
      obtain ⟨bq, oq, rfl, _, hbq, hcq2⟩ := hrq.form (by omega) (by decide)
      obtain ⟨c1, c2⟩ := secCells_get D.queue i hlt
      have e1 := hcq2 _ _ c1
      have e2 : wr.cell? ⟨bq, oq + i * 2 + 1, none⟩ = _ := hcq2 _ _ c2
      obtain ⟨d0, _, _, _, _, _, _⟩ := HD.out.cells
      have hm0 := HD.out.fm
      have hlk := HD.out.lookF D.queue[i].1
      have hqi := (HD.out.ok.q D.queue[i] (List.getElem_mem hlt))
      go_wp2_with fail
      have HD4 := Lib.hid (HD.out.only ((Only.refl NoF wr).alloc (.cells #[.int .i64 D.queue[i].1, .int .i64 D.queue[i].2] 76)) fun _ _ h => h)
      have HP := Lib.hid (Blk.new wr 76 #[.int .i64 D.queue[i].1, .int .i64 D.queue[i].2])
      have HO4 := Lib.hid (HO.out.alloc (.cells #[.int .i64 D.queue[i].1, .int .i64 D.queue[i].2] 76))
      clear hm0 d0 e1 e2 c1 c2 hbq hcq2 hrq
      generalize (wr.alloc (.cells #[.int .i64 D.queue[i].1, .int .i64 D.queue[i].2] 76)) = W4 at HD4 HP HO4 ⊢
      obtain ⟨d0, _, _, _, _, _, _⟩ := HD4.out.cells
      have hm0 := HD4.out.fm
      have p0 := HP.out.cell 0
      have p1 := HP.out.cell 1
      have hp4 := HP.out.lt
      have hb4 := HD4.out.blk.lt
      have HFT := Lib.hid HD4.out.foot_lt
      have hsz := HO4.out.size
      have hne1 : ¬ b = W4.heap.size := by omega
      have hne2 : ¬ wr.heap.size = W4.heap.size := by omega
      go_region
      have HD5 := Lib.hid (HD4.out.only (((Only.refl NoF W4).alloc (.cells #[strV ((D.crashing keep i).file D.queue[i].1).1, strV ((D.crashing keep i).file D.queue[i].1).2] 78)).drew) fun _ _ h => h)
      have HP5 := Lib.hid ((HP.out.alloc (.cells #[strV ((D.crashing keep i).file D.queue[i].1).1, strV ((D.crashing keep i).file D.queue[i].1).2] 78)).drew)
      have HF5 := Lib.hid ((Blk.new W4 78 #[strV ((D.crashing keep i).file D.queue[i].1).1, strV ((D.crashing keep i).file D.queue[i].1).2]).drew)
      have HO5 := Lib.hid ((HO4.out.alloc (.cells #[strV ((D.crashing keep i).file D.queue[i].1).1, strV ((D.crashing keep i).file D.queue[i].1).2] 78)).drew)
      clear hm0 d0 p0 p1 HD4 HO4 HP hlk
      generalize (W4.alloc _).drew = W5 at HD5 HP5 HF5 HO5 ⊢
      have hgf := HD5.out.ok.lens D.queue[i].1
      have hlk := HD5.out.lookF D.queue[i].1
      generalize hgg : (D.crashing keep i).file D.queue[i].1 = g at hgf HF5 hlk ⊢
      have f0 := HF5.out.cell 0
      have f1 := HF5.out.cell 1
      by_cases hk0 : keep = []
      · have hkl0 : keep.length = 0 := by simp [hk0]
        go_wp2_with fail
        go_roundw
        case rel => exact ⟨i + 1, fl, fc, by omega, by go_num, by rw [Dsk.crashing_none D keep i hlt (.inl (by simp [Dsk.survives, hk0]))]; exact HD5.out, HO5.out⟩
        case measure => simp [intOf]; omega
      · have hkpos : 0 < keep.length := List.length_pos_iff.2 hk0
        have hr5 : Reads W5 S 1 A keep.length (keep.map (Value.int .i64)) := HK.out.only HO5.out fun k hk e => e.elim (HS.out k hk).1 (HS.out k hk).2.1
        obtain ⟨bk, ok, rfl, _, hbk, hck⟩ := hr5.form hkpos (by decide)
        have hj : i % keep.length < keep.length := Nat.mod_lt _ hkpos
        have ck0 := hck (i % keep.length) (.int .i64 keep[i % keep.length]) (by simp [hj])
        have hkne : ¬ keep.length = 0 := by omega
        have hbit := bits_1 keep[i % keep.length]
        have hsv : Dsk.survives keep i = decide (keep[i % keep.length] % 2 = 1) := by simp [Dsk.survives, hk0, hj]
        generalize hkv : keep[i % keep.length] = kv at ck0 hbit hsv
        clear hck hr5
        have hno : Dsk.survives keep i = false ∨ g.1.length ≤ (D.queue[i].2 * 64).toNat → D.crashing keep (i + 1) = D.crashing keep i := fun h => Dsk.crashing_none D keep i hlt (by rw [hgg]; exact h)
        have HN := Lib.hid hno
        clear hno
        by_cases hodd : kv % 2 = 1
        · rw [hodd] at hbit
          by_cases hat : (g.1.length : Int) ≤ D.queue[i].2 * 64
          · go_wp2_with fail
            go_roundw
            case rel => exact ⟨i + 1, fl, fc, by omega, by go_num, by rw [HN.out (.inr (by omega))]; exact HD5.out, HO5.out⟩
            case measure => simp [intOf]; omega
          · obtain ⟨n0, n1, n2, n3⟩ := hqi
            have at0 : 0 ≤ D.queue[i].2 * 64 := by omega
            have at1 : D.queue[i].2 * 64 ≤ 16777216 := by omega
            have hat' : D.queue[i].2 * 64 < (g.1.length : Int) := by omega
            have hwr : IntKind.i64.wrap (D.queue[i].2 * 64 + 64) = D.queue[i].2 * 64 + 64 := by rw [IntKind.wrap_i64]; omega
            obtain ⟨m, hm⟩ : ∃ m : Int, (if (g.1.length : Int) < D.queue[i].2 * 64 + 64 then (g.1.length : Int) else D.queue[i].2 * 64 + 64) = m := ⟨_, rfl⟩
            have hm0 : 0 ≤ m := by split at hm <;> omega
            have hm1 : m ≤ (g.1.length : Int) := by split at hm <;> omega
            have hm2 : D.queue[i].2 * 64 ≤ m := by split at hm <;> omega
            go_wp2_with fail
            refine wp_region_reads [0, 1, 2, 3, 4, 5, 6, 7, 8, 9, 10, 11, 12] [13, 14, 15] (fun k w' => k ≤ 1 → w'.cell? ⟨W4.heap.size, 0, none⟩ = some (strV g.1) ∧ w'.cell? ⟨W4.heap.size, 1, none⟩ = some (strV g.2)) (by kernel_rfl) (by kernel_rfl) (fun _ _ _ _ _ h => h) (fun _ => ⟨f0, f1⟩) ?_
            iterate 13
              refine wpReads_cons rfl ?_ (by rfl) (fun w' k hk hS => ?_) ?_
              rotate_left
              · obtain ⟨s0, s1⟩ := hS (by have := Nat.le_trans hk (Nat.le_of_ble_eq_true (m := 1) (by kernel_rfl)); omega)
                go_simp
                with_reducible rfl
              try go_simp
            refine wpReads_nil ?_
            refine wpTail_cons rfl rfl ?_
            have hsl : (g.1.drop (D.queue[i].2 * 64).toNat).take (m.toNat - (D.queue[i].2 * 64).toNat) = (g.1.drop (D.queue[i].2 * 64).toNat).take 64 := by
              split at hm
              · rw [List.take_of_length_le (by simp; omega), List.take_of_length_le (by simp; omega)]
              · rw [show m.toNat - (D.queue[i].2 * 64).toNat = 64 by omega]
            go_simp
            refine (dput_c _ g.2 ((g.1.drop (D.queue[i].2 * 64).toNat).take 64) (D.queue[i].2 * 64) at0 at1 hgf.2 (by simp; omega)).mono ?_
            rintro e w6 ⟨rfl, ho6⟩
            have hF6 := HF5.out.drew.only ho6 id
            have f60 := hF6.cell 0
            have f61 := hF6.cell 1
            have z61 := hF6.frozen 1
            refine ⟨⟨f60, f61⟩, ?_⟩
            clear f0 f1
            refine wpTail_run rfl rfl (by go_simp; exact ⟨rfl, rfl⟩) (fun h => absurd h (by decide)) ?_
            try go_simp
            refine wpTail_skip rfl rfl (by go_simp; with_reducible rfl) (fun h => absurd h (by decide)) ?_
            try go_simp
            refine wpTail_nil ?_
            have o7 : Only (oneF W4.heap.size) W5 (w6.setCell ⟨W4.heap.size, 1, none⟩ (strV (put g.2 (D.queue[i].2 * 64).toNat ((g.1.drop (D.queue[i].2 * 64).toNat).take 64)))) :=
              (((Only.refl (oneF W4.heap.size) W5).drew).trans ho6 fun _ h => h.elim).setCell (p := ⟨W4.heap.size, 1, none⟩) (.inl rfl) _
            have HD7 := Lib.hid (HD5.out.only o7 fun k hk e => by
              have := HFT.out k hk
              rw [e] at this
              omega)
            have HP7 := Lib.hid (HP5.out.only o7 hne2)
            have HF7 := Lib.hid (hF6.set_ 1 (strV (put g.2 (D.queue[i].2 * 64).toNat ((g.1.drop (D.queue[i].2 * 64).toNat).take 64))))
            have HO7 := Lib.hid (HO5.out.trans o7 fun k hk => .inr (by rw [hk]; exact hsz))
            clear o7 f60 f61 z61 hF6 ho6 hlk
            generalize w6.setCell ⟨W4.heap.size, 1, none⟩ _ = W7 at HD7 HP7 HF7 HO7 ⊢
            obtain ⟨d0, _, _, _, _, _, _⟩ := HD7.out.cells
            have p0 := HP7.out.cell 0
            have f0 := HF7.out.cell 0
            have f1 := HF7.out.cell 1
            have hm7 := HD7.out.fm
            have hup := fun W hW => run_mapUpdate_assoc (P := Tryz.prog) (w := W) keyEqI Tryz.underlying56 hW D.queue[i].1 (g.1, put g.2 (D.queue[i].2 * 64).toNat ((g.1.drop (D.queue[i].2 * 64).toNat).take 64)) (ve := valF) (l := fl) (r := x.mf) (clock := fc)
            go_wp2_with fail
            go_region
            have HD8 := Lib.hid ((HD7.out.only ((Only.refl NoF W7).drew) fun _ _ h => h).putFile n0 n1 (y := (g.1, put g.2 (D.queue[i].2 * 64).toNat ((g.1.drop (D.queue[i].2 * 64).toNat).take 64))) ⟨hgf.1, length_put_le _ _ _ _ hgf.2 fun _ => by simp; omega⟩)
            have HO8 := Lib.hid ((HO7.out.drew).putMap (r := x.mf) (.inl (.inr rfl)) (.map ((aput D.queue[i].1 (g.1, put g.2 (D.queue[i].2 * 64).toNat ((g.1.drop (D.queue[i].2 * 64).toNat).take 64)) fc fl).map (entOf keyI valF)).toArray (if (assoc D.queue[i].1 fl).isSome then fc else fc + 1)))
            clear hup hm7 d0 p0 f0 f1
            generalize World.putMap W7.drew x.mf _ = W8 at HD8 HO8 ⊢
            go_wp2_with fail
            go_roundw
            case rel => exact ⟨i + 1, _, _, by omega, by go_num, by rw [Dsk.crashing_some D keep i hlt (by rw [hsv]; simp [hodd]) (by rw [hgg]; omega), hgg]; exact HD8.out, HO8.out⟩
            case measure => simp [intOf]; omega
        · have hev : kv % 2 = 0 := by omega
          rw [hev] at hbit
          go_wp2_with fail
          go_roundw
          case rel => exact ⟨i + 1, fl, fc, by omega, by go_num, by rw [HN.out (.inl (by rw [hsv]; simp [hev]))]; exact HD5.out, HO5.out⟩
          case measure => simp [intOf]; omega
    · have hin : i = D.queue.length := by omega
      subst hin
      have hmr := HD.out.fm
      obtain ⟨d0, _, _, _, _, _, _⟩ := HD.out.cells
      have hrun := run_range_map (P := Tryz.prog) wr 56 3 78 x.mf (fl.map (entOf keyI valF)).toArray fc Tryz.underlying56 hmr
      have hbw := HD.out.blk.lt
      have hmw := heap_lt hmr
      have hnm : x.mf ≠ b := HD.out.apart.1
      go_wp2_with fail
      clear hrun
      rename World => wo
      go_loopw [89] (fun _ wr => ∃ (seen : Array Nat) (c0 : Nat), IterAt wr wo.heap.size x.mf fc seen c0 ∧ fc ≤ c0 ∧ MapAt keyI valF wr x.mf (lastL fl seen) fc ∧ Only (fun k => k = x.mf) wo wr) (fun _ wr => iterLeft wr wo.heap.size x.mf)
      case atStart => exact ⟨#[], fc, heap_alloc_new wo _, Nat.le_refl _, by rw [lastL_start]; exact hmr.alloc _, (Only.refl _ wo).alloc _⟩
      case round =>
        obtain ⟨seen, c0, hI, hc0, hM, hO2⟩ := hrel
        have hlt2 := heap_lt hI
        have HI := Lib.hid hI
        have HMr := Lib.hid hM
        have HO2 := Lib.hid hO2
        rcases next_assoc (P := Tryz.prog) 0 hI hM (fun y hy => by
          obtain ⟨z, hz, rfl⟩ := List.mem_map.1 hy
          have := HD.out.fent.lt z hz
          split <;> exact this) hc0 with ⟨hl, hn⟩ | ⟨y, hy, w1, hw1, hn⟩
        · clear hI hM
          have B2 := Lib.hid (HD.out.blk.only hO2 (Ne.symm hnm))
          have z1 := B2.out.frozen 1
          have z2 := B2.out.frozen 2
          have e1 := B2.out.cell 1
          have e2 := B2.out.cell 2
          have hb2 := B2.out.lt
          have hmm := @run_makeMap Tryz.prog
          have hcr : ({ D.crashing keep D.queue.length with file := fun f => (((D.crashing keep D.queue.length).file f).2, ((D.crashing keep D.queue.length).file f).2), queue := [] } : Dsk) = D.crash keep := by
            simp [Dsk.crash, Dsk.crashing, hd]
          have HF := Lib.hid (crash_fin HD.out (by rw [hcr]; exact H.out.ok.crash keep) hl HMr.out hO2)
          rw [hcr] at HF
          have hne3 : ¬ b = wr.heap.size := by omega
          clear hO2
          go_wp2_with fail
          go_end0
          have hsz := HO.out.size
          have hsz2 := HO2.out.size
          have oA : Only (x.foot b).m w wr := (HO.out.mono (by
            rintro k (rfl | rfl)
            · exact .inl rfl
            · exact .inr (.inl rfl))).trans' (HO2.out.mono (by
            rintro k rfl
            exact .inr (.inl rfl)))
          refine ⟨rfl, HF.out.to (x := x) (((oA.setCell (p := ⟨b, 1, none⟩) (.inl (.inl rfl)) _).setCell (p := ⟨b, 2, none⟩) (.inl (.inl rfl)) _).alloc _) rfl ?_⟩
          · rintro k (hk | hk | hk | hk | hk)
            · exact .inl (.inl hk)
            · exact .inl (.inr (.inl hk))
            · refine .inr ?_
              simp only at hk
              omega
            · simp [Value.ownBlock] at hk
            · exact .inl (.inr (.inr (.inr (.inr hk))))
        · obtain ⟨hyl, hys⟩ := lastL_mem hy
          have hyL : y ∈ lastL fl seen := (List.mem_filter.1 hy).1
          have h1 : w1.heap = wr.heap := by rcases hw1 with rfl | rfl <;> rfl
          have hO1 : Only (fun k => k = x.mf) wo w1 := by rcases hw1 with rfl | rfl; exact hO2; exact hO2.drew
          have hs1 : w1.heap.size = wr.heap.size := by rw [h1]
          have hM1 : MapAt keyI valF w1 x.mf (lastL fl seen) fc := by unfold MapAt; rw [h1]; exact hM
          have hne : x.mf ≠ wo.heap.size := by omega
          have HI2 := Lib.hid (IterAt.put (w := w1) (r := x.mf) (since := fc) (seen := seen.push y.2.2) (c0 := fc) (by omega : wo.heap.size < w1.heap.size))
          have HM2 := Lib.hid (hM1.putOther hne (.mapIter (some x.mf) fc (seen.push y.2.2) fc))
          have HO3 := Lib.hid (hO1.putMap (r := wo.heap.size) (.inr (Nat.le_refl _)) (.mapIter (some x.mf) fc (seen.push y.2.2) fc))
          have hs2 : (World.putMap w1 wo.heap.size (.mapIter (some x.mf) fc (seen.push y.2.2) fc)).heap.size = wr.heap.size := by simp [World.putMap, hs1]
          have hnb : ((lastL fl seen).map (·.2.2)).Nodup := by rw [lastL_born]; exact HD.out.fent.born
          generalize World.putMap w1 wo.heap.size (.mapIter (some x.mf) fc (seen.push y.2.2) fc) = W3 at hn HI2 HM2 HO3 hs2
          have hen := entry_assoc (P := Tryz.prog) HI2.out HM2.out hyL hnb
          clear hI hM hO2 hM1 hO1
          have B3 := Lib.hid (HD.out.blk.only HO3.out (Ne.symm hnm))
          have e0 := B3.out.cell 0
          have hb3 := B3.out.lt
          have hm3 := HM2.out
          have hne4 : ¬ b = W3.heap.size := by omega
          have hne5 : ¬ b = wr.heap.size := by omega
          have hup := fun W hW => run_mapUpdate_assoc (P := Tryz.prog) (w := W) keyEqI Tryz.underlying56 hW y.1 (y.2.1.2, y.2.1.2) (ve := valF) (l := lastL fl seen) (r := x.mf) (clock := fc)
          have HS2 := Lib.hid hs2
          clear hs2
          obtain ⟨hpu, hpu2⟩ := lastL_push HD.out.fent hyl hys
          go_wp2_with fail
          go_region
          go_wp2_with fail
          have o4 : Only (fun k => k = x.mf) W3 (World.putMap (W3.alloc (.cells #[strV y.2.1.1, strV y.2.1.2] 78)).drew x.mf (.map ((lastL fl (seen.push y.2.2)).map (entOf keyI valF)).toArray fc)) := (((Only.refl (fun k => k = x.mf) W3).alloc _).drew).putMap (.inl rfl) _
          have hI4 := HI2.out.only o4 (fun e => hne e.symm)
          have hM4 : MapAt keyI valF (World.putMap (W3.alloc (.cells #[strV y.2.1.1, strV y.2.1.2] 78)).drew x.mf (.map ((lastL fl (seen.push y.2.2)).map (entOf keyI valF)).toArray fc)) x.mf (lastL fl (seen.push y.2.2)) fc := MapAt_putMap (by have := heap_lt HM2.out; simp; omega)
          go_roundw
          case rel => exact ⟨seen.push y.2.2, fc, hI4, Nat.le_refl _, hM4, HO3.out.trans' o4⟩
          case measure =>
            rw [iterLeft_eq HI.out HMr.out, iterLeft_eq hI4 hM4, leftL_congr _ ((lastL_born fl (seen.push y.2.2)).trans (lastL_born fl seen).symm)]
            exact leftL_push_lt hy
end
end Go.Proofs.YtlnadcihnfppaaaGreatDoor
