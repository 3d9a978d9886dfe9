/-
  The disk's small calls, walked: Down, may, Size, Read, Start, Lose, ends, New. No condition beyond that the disk lies in memory.
-/
import Derived.Test.YtdegmpigkgkafaaGreatDoorDskRep
namespace Go.Proofs.YtdegmpigkgkafaaGreatDoor
set_option maxHeartbeats 400000
set_option linter.unusedVariables false
set_option linter.unusedSimpArgs false
set_option linter.unusedSectionVars false
set_option maxRecDepth 20000
open Go.RowKit
section
variable {w : World} {b : Nat} {D : Dsk} {F : Foot}
theorem dmay_c (h : IsDisk w b D F) (f : Int) : Calls Tryz.prog 79 #[.pointer (some ⟨b, 0, none⟩), .int .i64 f] w fun e w' => e = .returned (.int .i64 (D.may f)) ∧ w = w' := by
 obtain ⟨x, h, rfl⟩ := h
 obtain ⟨_, _, _, _, h4, _, _⟩ := h.cells
 clear h
 cases hd : D.down with
 | true =>
  have e : D.may f = 8 := by simp [Dsk.may, hd]
  rw [e]
  rw [hd] at h4
  clear hd e
  go_enter Tryz.func79, Tryz.ntmps79
  go_wp2
  go_ret
  exact ⟨rfl, rfl⟩
 | false =>
  rw [hd] at h4
  by_cases hf : f < 0 ∨ 16 ≤ f
  · have e : D.may f = 1 := by simp [Dsk.may, hd, hf]
    rw [e]
    clear hd e
    go_enter Tryz.func79, Tryz.ntmps79
    go_wp2
    all_goals (go_ret; exact ⟨rfl, rfl⟩)
  · have e : D.may f = 0 := by simp [Dsk.may, hd, hf]
    rw [e]
    have h0 : 0 ≤ f := by omega
    have h1 : f < 16 := by omega
    clear hd e hf
    go_enter Tryz.func79, Tryz.ntmps79
    go_wp2
    go_ret
    exact ⟨rfl, rfl⟩
theorem dSize_c (h : IsDisk w b D F) (f : Int) : Calls Tryz.prog 50 #[.pointer (some ⟨b, 0, none⟩), .int .i64 f] w fun e w' => e = .returned (.int .i64 (D.size f)) ∧ w = w' := by
 obtain ⟨x, h, rfl⟩ := h
 obtain ⟨h0, _, _, _, _, _, _⟩ := h.cells
 have hl := h.look f
 clear h
 go_enter Tryz.func50, Tryz.ntmps50
 go_wp2
 go_ret
 exact ⟨rfl, rfl⟩
theorem dStart_c (h : IsDisk w b D F) : Calls Tryz.prog 16 #[.pointer (some ⟨b, 0, none⟩)] w fun e w' => e = .returned (.tuple #[]) ∧ DiskTo w b F D.start w' := by
 obtain ⟨x, h, hF⟩ := h
 obtain ⟨_, _, _, _, h4, _, _⟩ := h.cells
 have hf := h.blk.frozen 4
 have Hx := Lib.hid (h.store (D' := D.start) 4 (.bool false) rfl rfl rfl rfl h.ok.start)
 clear h
 go_enter Tryz.func16, Tryz.ntmps16
 go_wp2
 go_end0
 exact ⟨rfl, Hx.out.to ((Only.refl F.m w).setCell (.inl (by rw [hF]; exact .inl rfl)) _) hF fun k hk => .inl hk⟩
theorem dLose_c (h : IsDisk w b D F) (n : Int) (hn : I64 n) : Calls Tryz.prog 10 #[.pointer (some ⟨b, 0, none⟩), .int .i64 n] w fun e w' => e = .returned (.tuple #[]) ∧ DiskTo w b F (D.lose n) w' := by
 obtain ⟨x, h, hF⟩ := h
 obtain ⟨_, _, _, h3, _, _, _⟩ := h.cells
 have hf := h.blk.frozen 3
 have HF := Lib.hid hF
 have Hx := fun u e => h.store (D' := D.lose n) 3 (.int .i64 u) (by rw [show u = (D.lose n).lost from e]; rfl) rfl rfl rfl (h.ok.lose n hn)
 have hx := Lib.hid Hx
 clear Hx hF h
 go_enter Tryz.func10, Tryz.ntmps10
 go_wp2
 all_goals
  go_end0
  exact ⟨rfl, (hx.out _ (by simp only [Dsk.lose]; omega)).to ((Only.refl F.m w).setCell (.inl (by rw [HF.out]; exact .inl rfl)) _) HF.out fun k hk => .inl hk⟩
theorem dends_c (h : IsDisk w b D F) : Calls Tryz.prog 78 #[.pointer (some ⟨b, 0, none⟩)] w fun e w' => e = .returned (.bool D.ends) ∧ DiskTo w b F D.tick w' := by
 obtain ⟨x, h, hF⟩ := h
 obtain ⟨_, _, _, _, h4, h5, _⟩ := h.cells
 have hf := h.blk.frozen 5
 have ha := h.ok.armed
 cases hd : D.down with
 | true =>
  have Hp := Lib.hid (show D.ends = false ∧ D.tick = D from ⟨by simp [Dsk.ends, hd], by simp [Dsk.tick, hd]⟩)
  rw [hd] at h4
  clear hd
  go_enter Tryz.func78, Tryz.ntmps78
  go_wp2
  go_ret
  rw [Hp.out.1, Hp.out.2]
  exact ⟨rfl, DiskTo.same ⟨x, h, hF⟩⟩
 | false =>
  rw [hd] at h4
  by_cases h0 : D.armed = 0
  · have Hp := Lib.hid (show D.ends = false ∧ D.tick = D from ⟨by simp [Dsk.ends, h0], by simp [Dsk.tick, h0]⟩)
    have h0' : (D.armed == 0) = true := by simp [h0]
    clear hd h0
    go_enter Tryz.func78, Tryz.ntmps78
    go_wp2
    go_ret
    rw [Hp.out.1, Hp.out.2]
    exact ⟨rfl, DiskTo.same ⟨x, h, hF⟩⟩
  · have et : D.tick = { D with armed := D.armed - 1 } := by simp [Dsk.tick, hd, h0]
    have Hp := Lib.hid (show D.ends = (D.armed - 1 == 0) from by simp [Dsk.ends, hd, h0])
    have Hx := Lib.hid (h.store (D' := D.tick) 5 (.int .i64 (D.armed - 1)) (by rw [et]; rfl) (by rw [et]) (by rw [et]) (by rw [et]) h.ok.tick)
    have h0' : (D.armed == 0) = false := by simp [h0]
    clear hd h0 h et
    go_enter Tryz.func78, Tryz.ntmps78
    go_wp2
    go_ret
    rw [Hp.out]
    exact ⟨rfl, Hx.out.to ((Only.refl F.m w).setCell (.inl (by rw [hF]; exact .inl rfl)) _) hF fun k hk => .inl hk⟩
theorem dRead_c (h : IsDisk w b D F) (f at_ size : Int) (ha : I64 at_) (hs : I64 size) : Calls Tryz.prog 49 #[.pointer (some ⟨b, 0, none⟩), .int .i64 f, .int .i64 at_, .int .i64 size] w
 fun e w' => e = .returned (.tuple #[strV (D.read f at_ size).1, .int .i64 (D.read f at_ size).2]) ∧ w = w' := by
 have hm := dmay_c h f
 obtain ⟨x, h, hF⟩ := h
 obtain ⟨h0, _, _, _, _, _, _⟩ := h.cells
 have hl := h.look f
 have hok := h.ok.lens f
 clear h
 by_cases h1 : D.may f = 0
 · rw [h1] at hm
   by_cases h2 : at_ < 0 ∨ size < 0
   · have Hp := Lib.hid (show D.read f at_ size = ([], 1) from by simp [Dsk.read, h1, h2])
     clear h1
     go_enter Tryz.func49, Tryz.ntmps49
     go_wp2_with (go_at_call 79; refine hm.mono ?_; rintro e w' ⟨rfl, rfl⟩)
     all_goals (go_ret2; rw [Hp.out]; exact ⟨rfl, rfl⟩)
   · have Hp := Lib.hid (show D.read f at_ size = (Dsk.readS (D.file f).1 at_.toNat size.toNat, 0) from by simp [Dsk.read, h1, h2])
     have h3 : 0 ≤ at_ := by omega
     have h4 : 0 ≤ size := by omega
     clear h1 h2
     go_enter Tryz.func49, Tryz.ntmps49
     go_wp2_with (go_at_call 79; refine hm.mono ?_; rintro e w' ⟨rfl, rfl⟩)
     all_goals (go_ret2; rw [Hp.out]; refine ⟨ret_str2 ?_ rfl, rfl⟩)
     · exact readS_past _ _ _ ‹_›
     · rename_i hn
       rw [if_neg (by omega)] at hn
       simp only [List.take_take, Nat.min_self]
       exact readS_all _ _ _ hn
     · exact readS_past _ _ _ ‹_›
     · exact readS_some _ _ _
 · have Hp := Lib.hid (show D.read f at_ size = ([], D.may f) from by simp [Dsk.read, h1])
   have h2 : (D.may f != 0) = true := by simp [h1]
   clear h1
   go_enter Tryz.func49, Tryz.ntmps49
   go_wp2_with (go_at_call 79; refine hm.mono ?_; rintro e w' ⟨rfl, rfl⟩)
   go_ret2
   rw [Hp.out]
   exact ⟨rfl, rfl⟩
end
end Go.Proofs.YtdegmpigkgkafaaGreatDoor
