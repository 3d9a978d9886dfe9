/-
  The disk's write, walked.
  The disk's write, every case.
  A map's entries one after the other, in whatever order they come; delete; a map's clone. No condition: laws over whatever program.
  What settle hands to the library: the two tests, slices.IndexFunc, slices.DeleteFunc, maps.DeleteFunc at the sectors. No condition.
  maps.DeleteFunc at the set of the sectors. No condition.
  The disk's settle: a string becomes a file, durably; its sectors are not pending any more.
  The low bits of a number. No condition.
  The disk's crash.
  The disk's crash, walked.
  The disk's calls that a scheduled crash may strike: Write, Sync, Truncate; and Crash in both its cases.
-/
import Derived.Test.YtdegmpigkgkafaaGreatDoorDskW3
import Derived.Test.YtdegmpigkgkafaaGreatDoorDsk2
import Derived.Test.YtdegmpigkgkafaaGreatDoorRegion
import Derived.StillTailTactics
import Derived.Deep.RegionHeld3
import Derived.BigQuiet
import Derived.Maps.RangeRun
import Derived.Test.YtdegmpigkgkafaaGreatDoorDskRep
import Derived.Test.YtdegmpigkgkafaaGreatDoorClone
import Derived.Laws.BitsLemmas
namespace Go.Proofs.YtdegmpigkgkafaaGreatDoor
set_option maxHeartbeats 6000000
set_option maxRecDepth 10000
set_option linter.unusedVariables false
set_option linter.unusedSimpArgs false
set_option linter.unusedSectionVars false
set_option maxRecDepth 20000
section
open Go.RowKit
attribute [local go_sem] MapAt_setCell MapAt.alloc
@[local go_sem] theorem MapAt_drew {κ β : Type} {ke : κ → Value} {ve : β → Value} {w : World} {r clock : Nat} {l : List (κ × β × Nat)} : MapAt ke ve w.drew r l clock ↔ MapAt ke ve w r l clock := Iff.rfl
@[local go_sem] theorem cell?_putMap {w : World} {r : Nat} {o : Obj} (a : Addr) (h : ¬ a.block = r) : (World.putMap w r o).cell? a = w.cell? a :=
 World.cell?_of_block (w := w) (by simp [World.putMap, Ne.symm h])
@[local go_sem] theorem MapAt_putMap {κ β : Type} {ke : κ → Value} {ve : β → Value} {w : World} {r c' : Nat} {l' : List (κ × β × Nat)} (h : r < w.heap.size) : MapAt ke ve (World.putMap w r (.map (l'.map (entOf ke ve)).toArray c')) r l' c' := by
 simp [MapAt, World.putMap, h]
@[local go_sem] theorem size_putMap {w : World} {r : Nat} {o : Obj} : (World.putMap w r o).heap.size = w.heap.size := by simp [World.putMap]
theorem two_cells {w : World} {g : Nat} {t : TypeId} {a c : Value} (h : Blk w g t #[a, c]) : w.cell? ⟨g, 0, none⟩ = some a ∧ w.cell? ⟨g, 1, none⟩ = some c ∧ w.frozen? ⟨g, 0, none⟩ = false ∧ w.frozen? ⟨g, 1, none⟩ = false :=
 ⟨h.cell 0, h.cell 1, h.frozen 0, h.frozen 1⟩
theorem Entries.put {κ β : Type} [DecidableEq κ] {l : List (κ × β × Nat)} {c : Nat} (h : Entries l c) (k : κ) (v : β) : Entries (aput k v c l) (if (assoc k l).isSome then c else c + 1) where
 keys := by
  rw [aput_keys]
  split
  · rename_i hk
    rw [assoc_none] at hk
    refine List.nodup_append.2 ⟨h.keys, by simp, fun a ha b hb => ?_⟩
    simp at hb
    subst hb
    rintro rfl
    exact hk ha
  · exact h.keys
 born := by
  rw [aput_born]
  split
  · refine List.nodup_append.2 ⟨h.born, by simp, fun a ha b hb => ?_⟩
    simp at hb
    subst hb
    obtain ⟨y, hy, rfl⟩ := List.mem_map.1 ha
    have := h.lt y hy
    omega
  · exact h.born
 lt := fun y hy => by
  rcases mem_aput k v c l y hy with h1 | ⟨_, _, h3⟩
  · have := h.lt y h1
    split <;> omega
  · rcases h3 with ⟨h3, h4⟩ | ⟨z, hz, _, h4⟩
    · rw [h3]; simp; omega
    · have := h.lt z hz
      split <;> omega
section
variable {w : World} {b : Nat} {D : Dsk} {F : Foot}
/-- a file is stored -/
theorem IsDiskW.putFile {x : DWit} (h : IsDiskW w b D x) {f : Int} (h0 : 0 ≤ f) (h1 : f < 16) {y : Str × Str} (hy : y.1.length ≤ 16777216 ∧ y.2.length ≤ 16777216) :
 IsDiskW (World.putMap w x.mf (.map ((aput f y x.fc x.fl).map (entOf keyI valF)).toArray (if (assoc f x.fl).isSome then x.fc else x.fc + 1))) b { D with file := Dsk.setFile D.file f y }
  { x with fl := aput f y x.fc x.fl, fc := if (assoc f x.fl).isSome then x.fc else x.fc + 1 } := by
 obtain ⟨a1, a2, a3, a4, a5⟩ := h.apart
 have ho : Only (oneF x.mf) w (World.putMap w x.mf (.map ((aput f y x.fc x.fl).map (entOf keyI valF)).toArray (if (assoc f x.fl).isSome then x.fc else x.fc + 1))) := (Only.refl (oneF x.mf) w).putMap (r := x.mf) (.inl rfl) _
 exact {
  blk := h.blk.only ho (fun e => a1 e.symm)
  fm := h.fm.put _ _
  sm := h.sm.only ho (fun e => a3 e.symm)
  ne := h.ne
  own := own_only h.own ho fun k hk => (a4 k hk).2.1
  kpo := own_only h.kpo ho fun k hk => (a5 k hk).2.1
  abs := fun g => by
   rw [assoc_aput]
   simp only [Dsk.setFile]
   split
   · rfl
   · exact h.abs g
  fent := h.fent.put f y
  sent := h.sent
  fkey := fun z hz => by
   rcases mem_aput f y _ _ z hz with h2 | ⟨h2, _⟩
   · exact h.fkey z h2
   · rw [h2]; exact ⟨h0, h1⟩
  sset := h.sset
  ok := h.ok.setFile h0 h1 hy }
theorem IsDiskW.lookS {x : DWit} (h : IsDiskW w b D x) (f n : Int) (v : Bool) (hv : decide ((f, n) ∈ D.queue) = v) (W : World) (hW : MapAt keyS valB W x.ms x.sl x.sc) :
 (Instr.lookup 55 (.map (some x.ms)) (.agg #[.int .i64 f, .int .i64 n]) false).run Tryz.prog W = .ok (.bool v) W := by
 have := run_lookup_assoc (P := Tryz.prog) (w := W) keyEqS Tryz.underlying55 (zeroBool W) hW (f, n) (ve := valB) (l := x.sl) (r := x.ms) (clock := x.sc)
 rw [h.sset] at this
 subst hv
 by_cases hq : (f, n) ∈ D.queue
 · simpa [hq] using this
 · simpa [hq] using this
theorem DiskTo.more {w w1 w2 : World} (h : DiskTo w b F D w1) (hb : Below w1.heap.size w1 w2) : DiskTo w b F D w2 := by
 obtain ⟨F', h1, h2, h3, h4⟩ := h
 have ho : Only NoF w1 w2 := Only.of_below hb (Nat.le_refl _)
 exact ⟨F', h1.only ho fun _ _ h => h, h2.trans ho fun _ h => h.elim, h3, h4⟩
/-- a sector is added to the list and to the set -/
theorem push_fin {x : DWit} {w4 : World} {f n : Int} {o : Obj} {A : Option Addr} {c : Nat} {W : World} (h : IsDiskW W b D x) (hq : ¬ (f, n) ∈ D.queue) (h0 : 0 ≤ f) (h1 : f < 16) (h2 : 0 ≤ n) (h3 : n ≤ 262144)
 (hown : w4.ownsRow 0 84 2 (.slice A (D.queue.length + 1) c) (D.queue.length + 1) (secCells D.queue ++ [.int .i64 f, .int .i64 n])) (hg : (W.alloc o).drew.grownBy w4 x.q.ownBlock)
 (hat : (Value.slice A (D.queue.length + 1) c).ownBlock = x.q.ownBlock ∨ (Value.slice A (D.queue.length + 1) c).ownBlock = some (W.alloc o).drew.heap.size) :
 DiskTo W b (x.foot b) { D with queue := Dsk.push D.queue (f, n) }
  (World.putMap (World.putMap (w4.setCell ⟨b, 1, none⟩ (.slice A (D.queue.length + 1) c)) x.ms (.map ((x.sl ++ [((f, n), false, x.sc)]).map (entOf keyS valB)).toArray (x.sc + 1))) x.ms (.map ((x.sl ++ [((f, n), true, x.sc)]).map (entOf keyS valB)).toArray (x.sc + 1))) := by
 obtain ⟨a1, a2, a3, a4, a5⟩ := h.apart
 have hqn : ∀ k, x.q.ownBlock = some k → k < W.heap.size := own_lt h.own
 have o4 : Only (fun k => x.q.ownBlock = some k) W w4 := (((Only.refl _ W).alloc o).drew).grown hg fun k hk => .inl hk
 have hb4 := h.blk.only o4 fun e => (a4 b e).1 rfl
 have hf4 := h.fm.only o4 fun e => (a4 _ e).2.1 rfl
 have hs4 := h.sm.only o4 fun e => (a4 _ e).2.2 rfl
 have hk4 := own_only h.kpo o4 fun k hk hq' => (a5 k hk).2.2.2 hq'
 have o5 : ∀ {F : Nat → Prop} {u : Value} {o1 o2 : Obj}, F b → F x.ms → Only F w4 (World.putMap (World.putMap (w4.setCell ⟨b, 1, none⟩ u) x.ms o1) x.ms o2) := fun hb hm =>
  (((Only.refl _ w4).setCell (p := ⟨b, 1, none⟩) (.inl hb) _).putMap (.inl hm) _).putMap (.inl hm) _
 have hne : ∀ k, (Value.slice A (D.queue.length + 1) c).ownBlock = some k → k ≠ b ∧ k ≠ x.ms := fun k hk => by
  obtain ⟨cur, hc⟩ := own_type hown k hk
  exact ⟨hc.ne_ hb4 (by decide), (map_ne_blk hs4 hc).symm⟩
 have hpush : Dsk.push D.queue (f, n) = D.queue ++ [(f, n)] := by simp [Dsk.push, hq]
 have hD : IsDiskW (World.putMap (World.putMap (w4.setCell ⟨b, 1, none⟩ (.slice A (D.queue.length + 1) c)) x.ms (.map ((x.sl ++ [((f, n), false, x.sc)]).map (entOf keyS valB)).toArray (x.sc + 1))) x.ms (.map ((x.sl ++ [((f, n), true, x.sc)]).map (entOf keyS valB)).toArray (x.sc + 1))) b
  { D with queue := Dsk.push D.queue (f, n) } { x with q := .slice A (D.queue.length + 1) c, sl := x.sl ++ [((f, n), true, x.sc)], sc := x.sc + 1 } := {
  blk := ((hb4.set_ 1 _).putMap (Ne.symm a2) _).putMap (Ne.symm a2) _
  fm := hf4.only (o5 (F := fun k => k = b ∨ k = x.ms) (.inl rfl) (.inr rfl)) (fun hh => hh.elim a1 a3)
  sm := MapAt_putMap (by simpa [World.putMap] using heap_lt hs4)
  ne := h.ne
  own := by
   simp only [hpush, List.length_append, List.length_cons, List.length_nil, Nat.zero_add]
   have e : secCells (D.queue ++ [(f, n)]) = secCells D.queue ++ [.int .i64 f, .int .i64 n] := by simp [secCells]
   rw [e]
   exact own_only hown (o5 (F := fun k => k = b ∨ k = x.ms) (.inl rfl) (.inr rfl)) fun k hk hh => hh.elim (hne k hk).1 (hne k hk).2
  kpo := own_only hk4 (o5 (F := fun k => k = b ∨ k = x.ms) (.inl rfl) (.inr rfl)) fun k hk hh => hh.elim (a5 k hk).1 (a5 k hk).2.2.1
  abs := h.abs
  fent := h.fent
  sent := by
   have hn : assoc (f, n) x.sl = none := by rw [h.sset, if_neg hq]
   have := h.sent.put (f, n) true
   rw [aput_none (assocIx_none hn), hn] at this
   exact this
  fkey := h.fkey
  sset := fun p => by
   have hn : assoc (f, n) x.sl = none := by rw [h.sset, if_neg hq]
   rw [← aput_none (assocIx_none hn), assoc_aput, h.sset]
   by_cases hp : p = (f, n)
   · simp [hp, hpush]
   · simp [hp, hpush]
  ok := h.ok.push h0 h1 h2 h3 }
 refine hD.to ((o4.mono fun k hk => .inr (.inr (.inr (.inl hk)))).trans' (o5 (.inl rfl) (.inr (.inr (.inl rfl))))) rfl fun k hk => ?_
 rcases hk with hk | hk | hk | hk | hk
 · exact .inl (.inl hk)
 · exact .inl (.inr (.inl hk))
 · exact .inl (.inr (.inr (.inl hk)))
 · rcases hat with e | e
   · exact .inl (.inr (.inr (.inr (.inl (by rw [← e]; exact hk)))))
   · refine .inr ?_
     have : some k = some (W.alloc o).drew.heap.size := hk.symm.trans e
     simp at this
     omega
 · exact .inl (.inr (.inr (.inr (.inr hk))))
theorem foot_same {x x' : DWit} {b : Nat} (e1 : x'.mf = x.mf) (e2 : x'.ms = x.ms) (e3 : x'.q = x.q) (e4 : x'.kp = x.kp) : x'.foot b = x.foot b := by
 unfold DWit.foot
 rw [e1, e2, e3, e4]
theorem write_first {x : DWit} {w1 : World} {f : Int} {a : Nat} {s : Str} {g : Nat} {u : Value} (h : IsDiskW w1 b D x) (ho : Only NoF w w1) (hg : w.heap.size ≤ g) (h0 : 0 ≤ f) (h1 : f < 16) (ha : a + s.length ≤ 16777216) (hx : ∀ k, (x.foot b).all k → k < w.heap.size) :
 DiskTo w b (x.foot b) (D.wrote f a s 0) (World.putMap (w1.setCell ⟨g, 0, none⟩ u).drew x.mf (.map ((aput f (put (D.file f).1 a s, (D.file f).2) x.fc x.fl).map (entOf keyI valF)).toArray (if (assoc f x.fl).isSome then x.fc else x.fc + 1))) := by
 have o1 : Only (oneF g) w1 (w1.setCell ⟨g, 0, none⟩ u).drew := ((Only.refl (oneF g) w1).setCell (p := ⟨g, 0, none⟩) (.inl rfl) u).drew
 have h2 := h.only o1 fun k hk e => by have := hx k hk; rw [e] at this; omega
 have h3 := h2.putFile h0 h1 (y := (put (D.file f).1 a s, (D.file f).2)) ⟨length_put_le _ _ _ _ (h.ok.lens f).1 (fun _ => ha), (h.ok.lens f).2⟩
 rw [Dsk.wrote_zero]
 refine h3.to (((ho.trans o1 fun i hi => .inr (by rw [hi]; exact hg)).mono fun _ h => h.elim).putMap (.inl (.inr (.inl rfl))) _) rfl fun k hk => .inl ?_
 rw [foot_same rfl rfl rfl rfl] at hk
 exact hk
theorem dwrite_some (h : IsDisk w b D F) (f at_ : Int) (s : Str) (hm : D.may f = 0) (hf : Dsk.fits at_ s) (hs : s ≠ []) :
 Calls Tryz.prog 104 #[.pointer (some ⟨b, 0, none⟩), .int .i64 f, .int .i64 at_, strV s] w fun e w' => e = .returned (.int .i64 0) ∧ DiskTo w b F (D.add f at_.toNat s) w' := by
 obtain ⟨a, rfl⟩ : ∃ a : Nat, at_ = a := ⟨at_.toNat, by have := hf.1; omega⟩
 rw [Int.toNat_natCast]
 have hmc := dmay_c h f
 rw [hm] at hmc
 have hmz := Dsk.may_zero hm
 obtain ⟨x, h, hF⟩ := h
 have HF := Lib.hid hF
 have H := Lib.hid h
 obtain ⟨h0, _, _, _, _, _, _⟩ := h.cells
 have hl := h.look f
 have hne : ¬ w.heap.size = b := by have := h.blk.lt; omega
 have hlen := (h.ok.lens f).1
 obtain ⟨hf0, hf1, hf2⟩ := hf
 have hsl : s.length ≤ 16777216 := by omega
 have hse : s.isEmpty = false := by simpa using hs
 have hput := fun W => dput_c W (D.file f).1 s a hf0 hf1 hlen hsl
 rw [Int.toNat_natCast] at hput
 clear hF h hm
 go_enter Tryz.func104, Tryz.ntmps104
 go_wp2_with (first | (go_at_call 79; refine hmc.mono ?_; rintro e w' ⟨rfl, rfl⟩) | (go_at_call 35; refine (hput _).mono ?_; rintro e w1 ⟨rfl, ho1⟩; have hB := Lib.hid (two_cells ((Blk.new w 86 #[strV (D.file f).1, strV (D.file f).2]).only ho1 id)); have c0 := hB.out.1; have c1 := hB.out.2.1; have z0 := hB.out.2.2.1; have H1 := Lib.hid (H.out.only (((Only.refl NoF w).alloc _).trans' ho1) fun _ _ h => h); have h0' := H1.out.cells.1; have hm1 := H1.out.fm; have hlt := ho1.size; simp only [World.size_alloc] at hlt))
 have hup := fun W hW => run_mapUpdate_assoc (P := Tryz.prog) (w := W) keyEqI Tryz.underlying54 hW f (put (D.file f).1 a s, (D.file f).2) (ve := valF) (l := x.fl) (r := x.mf) (clock := x.fc)
 go_region
 have HD := Lib.hid (write_first (w := w) (f := f) (a := a) (s := s) (D := D) (u := strV (put (D.file f).1 a s)) H1.out (((Only.refl NoF w).alloc _).trans' ho1) (Nat.le_refl w.heap.size) hmz.2.1 hmz.2.2 (by omega) H.out.foot_lt)
 rw [← HF.out] at HD
 generalize hWG : World.putMap _ x.mf _ = W2 at HD ⊢
 have hcnt := Dsk.length_secs a s.length
 have hsp : 0 < s.length := List.length_pos_iff.2 hs
 have Hs := Lib.hid hs
 clear hup c0 c1 z0 h0' hm1 hlt hB H1 ho1 hWG hl hput hmc hs
 go_wp2_with fail
 go_loopw [11] (fun n wr => ∃ i : Nat, i ≤ (Dsk.secs a s.length).length ∧ n = .int .i64 ((a / 64 + i : Nat) : Int) ∧ DiskTo w b F (D.wrote f a s i) wr) (fun n _ => a / 64 + (Dsk.secs a s.length).length - (intOf n).toNat)
 case atStart => exact ⟨0, by omega, by go_num, HD.out⟩
 case round =>
  obtain ⟨i, hi, rfl, hD⟩ := hrel
  have HDi := Lib.hid hD
  clear hD HD
  by_cases hlt : i < (Dsk.secs a s.length).length
  · obtain ⟨Fi, ⟨xi, hxi, hFi⟩, hOi, hFi2, hFi3⟩ := HDi.out
    have Hxi := Lib.hid hxi
    clear hxi
    obtain ⟨_, d1, d2, _⟩ := Hxi.out.cells
    have z1 := Hxi.out.blk.frozen 1
    have hbl := Hxi.out.blk.lt
    have hnb : ¬ wr.heap.size = b := by omega
    have hmt := Hxi.out.sm
    have hN : ((a / 64 + i : Nat) : Int) = (a : Int) / 64 + (i : Int) := by omega
    by_cases hq : (f, (a : Int) / 64 + (i : Int)) ∈ (D.wrote f a s i).queue
    · have hlk := Hxi.out.lookS f ((a : Int) / 64 + (i : Int)) true (by simp [hq])
      have HN := Lib.hid hN
      clear hN
      go_wp2_with fail
      go_region
      go_wp2_with fail
      go_roundw
      case rel =>
       refine ⟨i + 1, by omega, by go_num, ?_⟩
       rw [Dsk.wrote_succ D f a s i hlt, HN.out, Dsk.push, if_pos hq]
       exact HDi.out.more (Below.refl _ _ |>.alloc (Nat.le_refl _) _ |>.drew)
      case measure => simp [intOf]; omega
    · have hlk := Hxi.out.lookS f ((a : Int) / 64 + (i : Int)) false (by simp [hq])
      have HN := Lib.hid hN
      have Hq := Lib.hid hq
      clear hN hq
      go_wp2_with fail
      go_region
      go_wp2_with fail
      have H3 := Lib.hid (Hxi.out.only (((Only.refl NoF wr).alloc (.cells #[.int .i64 f, .int .i64 ((a : Int) / 64 + (i : Int))] 84)).drew) fun _ _ h => h)
      have HP := Lib.hid ((Blk.new wr 84 #[.int .i64 f, .int .i64 ((a : Int) / 64 + (i : Int))]).drew)
      have HO := Lib.hid ((((Below.refl wr.heap.size wr).alloc (Nat.le_refl _) (.cells #[.int .i64 f, .int .i64 ((a : Int) / 64 + (i : Int))] 84)).drew))
      clear hlk d1 d2 z1 hmt
      generalize (wr.alloc (.cells #[.int .i64 f, .int .i64 ((a : Int) / 64 + (i : Int))] 84)).drew = w3 at H3 HP HO ⊢
      obtain ⟨_, d1, d2, _⟩ := H3.out.cells
      obtain ⟨p0, p1, _, _⟩ := two_cells HP.out
      have hmt := H3.out.sm
      have hassoc : assoc (f, (a : Int) / 64 + (i : Int)) xi.sl = none := by rw [H3.out.sset, if_neg Hq.out]
      have hme := fun W hW => run_mapEntry_new (P := Tryz.prog) (w := W) keyEqS Tryz.underlying55 false zeroBool hW hassoc (ve := valB) (r := xi.ms) (clock := xi.sc)
      have hes := fun W hW => run_entryStore_last (P := Tryz.prog) (w := W) (T := 55) (k := (f, (a : Int) / 64 + (i : Int))) (z := false) true H3.out.sent.lt hW (ke := keyS) (ve := valB) (r := xi.ms) (c' := xi.sc + 1)
      clear hassoc
      obtain ⟨ti, hti, hz0, hz1, hz2⟩ := info_parts info_Sec
      have hql := H3.out.ok.qlen
      obtain ⟨a1, a2, a3, a4, a5⟩ := H3.out.apart
      have hbq : some b ≠ xi.q.ownBlock := fun e => (a4 b e.symm).1 rfl
      have hpq : some wr.heap.size ≠ xi.q.ownBlock := fun e => by
       have := own_lt Hxi.out.own _ e.symm
       omega
      have hbm : ¬ b = xi.ms := fun e => a2 e.symm
      have hpm : ¬ wr.heap.size = xi.ms := fun e => by
       have := heap_lt Hxi.out.sm
       omega
      clear a1 a2 a3 a4 a5
      have hw3 : wr.heap.size < w3.heap.size := HP.out.lt
      have hbw3 : b < w3.heap.size := H3.out.blk.lt
      have hmw3 : xi.ms < w3.heap.size := heap_lt H3.out.sm
      refine wp_region_reads [0, 1, 2, 3, 6, 7, 8, 4, 5, 9, 10] [11, 12, 13, 14, 15, 16, 17, 18] (fun k w' => (k ≤ 2 → w'.cell? ⟨b, 2, none⟩ = some (.map (some xi.ms)) ∧ w'.cell? ⟨b, 1, none⟩ = some xi.q) ∧ (k ≤ 5 → w'.cell? ⟨wr.heap.size, 0, none⟩ = some (.int .i64 f) ∧ w'.cell? ⟨wr.heap.size, 1, none⟩ = some (.int .i64 ((a : Int) / 64 + (i : Int))))) (by kernel_rfl) (by kernel_rfl) (fun _ _ _ _ _ h => h) ⟨fun _ => ⟨d2, d1⟩, fun _ => ⟨p0, p1⟩⟩ ?_
      iterate 7
       refine wpReads_cons rfl ?_ (by rfl) (fun w' k hk hS => ?_) ?_
       rotate_left
       · go_simp
         with_reducible rfl
       try go_simp
      iterate 2
       refine wpReads_cons rfl ?_ (by rfl) (fun w' k hk hS => ?_) ?_
       rotate_left
       · obtain ⟨s2, s1⟩ := hS.1 (Nat.le_trans hk (Nat.le_of_ble_eq_true (by kernel_rfl)))
         go_simp
         with_reducible rfl
       try go_simp
       refine wpReads_cons rfl ?_ (by rfl) (fun w' k hk hS => ?_) ?_
       rotate_left
       · obtain ⟨s2, s1⟩ := hS.2 (Nat.le_trans hk (Nat.le_of_ble_eq_true (by kernel_rfl)))
         go_simp
         with_reducible rfl
       try go_simp
      refine wpReads_nil ?_
      refine wpTail_run rfl rfl (by go_simp; exact ⟨rfl, rfl⟩) ⟨fun _ => ⟨by go_simp, by go_simp⟩, fun _ => ⟨by go_simp, by go_simp⟩⟩ ?_
      try go_simp
      have hown : ((w3.alloc (.cells #[.int .i64 f, .int .i64 ((a : Int) / 64 + (i : Int))] 84)).drew).ownsRow 0 84 2 xi.q (D.wrote f a s i).queue.length (secCells (D.wrote f a s i).queue) := own_only H3.out.own (((Only.refl NoF w3).alloc _).drew) fun _ _ h => h
      have hrd : Reads ((w3.alloc (.cells #[.int .i64 f, .int .i64 ((a : Int) / 64 + (i : Int))] 84)).drew) (fun k => k = w3.heap.size) 2 (some ⟨w3.heap.size, 0, none⟩) 1 [.int .i64 f, .int .i64 ((a : Int) / 64 + (i : Int))] := by
       refine ⟨rfl, fun _ => ⟨_, rfl, rfl, by simp, fun j u hu => ?_⟩⟩
       have hB := (Blk.new w3 84 #[.int .i64 f, .int .i64 ((a : Int) / 64 + (i : Int))]).drew
       rcases j with _ | _ | j
       · simp at hu; subst hu; exact hB.cell 0
       · simp at hu; subst hu; exact hB.cell 1
       · simp at hu
      refine wpTail_cons rfl rfl (wp_append_any _ _ _ _ rfl 0 84 ti _ 2 16 Tryz.underlying56 hti hz0 hz1 hz2 rfl (by decide) xi.q _ _ rfl hown _ _ 1 1 _ rfl hrd ?_ ?_ ?_ (Nat.zero_le _) ?_)
      · simp [Value.oneCell']
      · simp [maxLen]; omega
      · omega
      intro v' w4 hown4 hg hat
      obtain ⟨A, c, rfl, hc1, hc2, _⟩ := Reads.of_own hown4
      have o4 : Only (fun k => xi.q.ownBlock = some k) w3 w4 := ((((Only.refl _ w3).alloc _).drew).grown hg fun k hk => .inl hk)
      have B4 := Lib.hid (H3.out.blk.only o4 fun e => hbq e.symm)
      have P4 := Lib.hid (HP.out.only o4 fun e => hpq e.symm)
      have hmt4 := H3.out.sm.only o4 fun e => (H3.out.apart.2.2.2.1 _ e).2.2 rfl
      have hm4 : xi.ms < w4.heap.size := heap_lt hmt4
      have e1 := B4.out.cell 1
      have e2 := B4.out.cell 2
      have z1 := B4.out.frozen 1
      have e3 := P4.out.cell 0
      have e4 := P4.out.cell 1
      have hfin := Lib.hid (push_fin H3.out Hq.out hmz.2.1 hmz.2.2 (by omega) (by omega) hown4 hg hat)
      refine ⟨⟨fun _ => ⟨e2, e1⟩, fun _ => ⟨e3, e4⟩⟩, ?_⟩
      clear d1 d2 p0 p1 hmt hown hrd hown4 hg hat
      try go_simp
      iterate 2
       refine wpTail_run rfl rfl (by go_simp; exact ⟨rfl, rfl⟩) ⟨fun _ => ⟨by go_simp, by go_simp⟩, fun _ => ⟨by go_simp, by go_simp⟩⟩ ?_
       try go_simp
      refine wpTail_skip rfl rfl (by go_simp; with_reducible rfl) ⟨fun h => absurd h (by decide), fun _ => ⟨by go_simp, by go_simp⟩⟩ ?_
      try go_simp
      iterate 2
       refine wpTail_run rfl rfl (by go_simp; exact ⟨rfl, rfl⟩) ⟨fun h => absurd h (by decide), fun h => absurd h (by decide)⟩ ?_
       try go_simp
      have hes1 := hes (World.putMap (w4.setCell ⟨b, 1, none⟩ (.slice A ((D.wrote f a s i).queue.length + 1) c)) xi.ms (.map ((xi.sl ++ [((f, (a : Int) / 64 + (i : Int)), false, xi.sc)]).map (entOf keyS valB)).toArray (xi.sc + 1))) (MapAt_putMap (by go_simp))
      simp only [List.map_append, List.map_cons, List.map_nil] at hes1
      refine wpTail_skip rfl rfl (by go_simp; with_reducible rfl) ⟨fun h => absurd h (by decide), fun h => absurd h (by decide)⟩ ?_
      try go_simp
      refine wpTail_nil ?_
      have HD3 : DiskTo w b F (D.wrote f a s (i + 1)) (World.putMap
       (World.putMap (w4.setCell ⟨b, 1, none⟩ (.slice A ((D.wrote f a s i).queue.length + 1) c)) xi.ms (.map ((xi.sl ++ [((f, (a : Int) / 64 + (i : Int)), false, xi.sc)]).map (entOf keyS valB)).toArray (xi.sc + 1)))
       xi.ms (.map ((xi.sl ++ [((f, (a : Int) / 64 + (i : Int)), true, xi.sc)]).map (entOf keyS valB)).toArray (xi.sc + 1))) := by
       rw [Dsk.wrote_succ D f a s i hlt, HN.out]
       exact DiskTo.trans (hOi.trans (Only.of_below (F := NoF) HO.out (Nat.le_refl _)) fun _ h => h.elim) (fun k hk => hFi2 k (by rw [hFi]; exact hk)) (fun k hk => hFi3 k (by rw [hFi]; exact hk)) hfin.out
      simp only [List.map_append, List.map_cons, List.map_nil] at HD3
      have HD4 := Lib.hid HD3
      clear HD3 hes1
      generalize World.putMap (World.putMap _ xi.ms _) xi.ms _ = W6 at HD4 ⊢
      clear hfin B4 P4 hmt4 o4 e1 e2 e3 e4 z1
      go_wp2_with fail
      go_roundw
      case rel => exact ⟨i + 1, by omega, by go_num, HD4.out⟩
      case measure => simp [intOf]; omega
  · go_wp2_with fail
    go_ret
    refine ⟨rfl, ?_⟩
    rw [← Dsk.wrote_all D f a s Hs.out i (by omega)]
    exact HDi.out
end
end
section
open Go.RowKit
section
variable {w : World} {b : Nat} {D : Dsk} {F : Foot}
theorem dwrite_c (h : IsDisk w b D F) (f at_ : Int) (s : Str) (ha : I64 at_) (hl : s.length ≤ 1000000) :
 Calls Tryz.prog 104 #[.pointer (some ⟨b, 0, none⟩), .int .i64 f, .int .i64 at_, strV s] w fun e w' => e = .returned (.int .i64 (D.write0 f at_ s).2) ∧ DiskTo w b F (D.write0 f at_ s).1 w' := by
 by_cases h1 : D.may f = 0
 · by_cases h2 : at_ < 0
   · have Hp := Lib.hid (show D.write0 f at_ s = (D, 1) from by simp [Dsk.write0, h1, h2])
     have hmc := dmay_c h f
     rw [h1] at hmc
     have H := Lib.hid h
     clear h1 h
     rw [Hp.out]
     go_enter Tryz.func104, Tryz.ntmps104
     go_wp2_with (go_at_call 79; refine hmc.mono ?_; rintro e w' ⟨rfl, rfl⟩)
     go_ret
     exact ⟨rfl, .same H.out⟩
   · by_cases h3 : Dsk.fits at_ s
     · have e : D.write0 f at_ s = (D.add f at_.toNat s, 0) := by simp [Dsk.write0, h1, h2, h3]
       rw [e]
       by_cases h4 : s = []
       · have Hp : D.add f at_.toNat s = D := by simp [Dsk.add, h4]
         rw [Hp]
         have hmc := dmay_c h f
         rw [h1] at hmc
         have H := Lib.hid h
         subst h4
         obtain ⟨h5, h6, h7⟩ := h3
         clear h1 h Hp e h7
         go_enter Tryz.func104, Tryz.ntmps104
         go_wp2_with (go_at_call 79; refine hmc.mono ?_; rintro e w' ⟨rfl, rfl⟩)
         all_goals (go_ret; exact ⟨rfl, .same H.out⟩)
       · exact dwrite_some h f at_ s h1 h3 h4
     · have Hp : D.write0 f at_ s = (D, 6) := by simp [Dsk.write0, h1, h2, h3]
       rw [Hp]
       have hmc := dmay_c h f
       rw [h1] at hmc
       have H := Lib.hid h
       have h5 : 0 ≤ at_ := by omega
       have h6 : 16777216 < at_ ∨ (at_ ≤ 16777216 ∧ 16777216 - at_ < (s.length : Int)) := by unfold Dsk.fits at h3; omega
       clear h1 h Hp h3 h2
       rcases h6 with h6 | ⟨h6, h7⟩
       · go_enter Tryz.func104, Tryz.ntmps104
         go_wp2_with (go_at_call 79; refine hmc.mono ?_; rintro e w' ⟨rfl, rfl⟩)
         all_goals (go_ret; exact ⟨rfl, .same H.out⟩)
       · go_enter Tryz.func104, Tryz.ntmps104
         go_wp2_with (go_at_call 79; refine hmc.mono ?_; rintro e w' ⟨rfl, rfl⟩)
         all_goals (go_ret; exact ⟨rfl, .same H.out⟩)
 · have Hp := Lib.hid (show D.write0 f at_ s = (D, D.may f) from by simp [Dsk.write0, h1])
   have h2 : (D.may f != 0) = true := by simp [h1]
   have hmc := dmay_c h f
   have H := Lib.hid h
   clear h1 h
   go_enter Tryz.func104, Tryz.ntmps104
   go_wp2_with (go_at_call 79; refine hmc.mono ?_; rintro e w' ⟨rfl, rfl⟩)
   go_ret
   rw [Hp.out]
   exact ⟨rfl, .same H.out⟩
end
end
section
open Go.RowKit
section
variable {κ β : Type} {ke : κ → Value} {ve : β → Value} {P : Program}
def IterAt (w : World) (it r since : Nat) (seen : Array Nat) (c0 : Nat) : Prop := w.heap[it]? = some (.mapIter (some r) since seen c0)
/-- the entries that have not come yet -/
def leftL (l : List (κ × β × Nat)) (seen : Array Nat) : List (κ × β × Nat) := l.filter fun x => !seen.contains x.2.2
theorem leftOf_map (l : List (κ × β × Nat)) (seen : Array Nat) : (leftOf (l.map (entOf ke ve)).toArray seen).toList = (leftL l seen).map (entOf ke ve) := by
 simp only [leftOf, leftL, List.filter_toArray, List.filter_map]
 rfl
theorem next_assoc {w : World} {it r since c0 clock : Nat} {seen : Array Nat} {l : List (κ × β × Nat)} (ty : TypeId) (hr : IterAt w it r since seen c0) (hb : MapAt ke ve w r l clock) (hold : ∀ y ∈ l, y.2.2 < since) (hsc : since ≤ c0) :
 (leftL l seen = [] ∧ (Instr.next (.pointer (some ⟨it, 0, none⟩)) false ty).run P w = .ok (.tuple #[.bool false]) w) ∨
 ∃ y ∈ leftL l seen, ∃ w1 : World, (w1 = w ∨ w1 = w.drew) ∧ (Instr.next (.pointer (some ⟨it, 0, none⟩)) false ty).run P w = .ok (.tuple #[.bool true, ke y.1, ve y.2.1]) (World.putMap w1 it (.mapIter (some r) since (seen.push y.2.2) clock)) := by
 rcases run_next_at (P := P) w ty it r since c0 seen _ clock hr hb (by
  intro x hx
  obtain ⟨y, hy, rfl⟩ := List.mem_map.1 (show x ∈ l.map (entOf ke ve) from hx)
  exact hold y hy) hsc with ⟨h1, h2⟩ | ⟨e, he, w1, h1, h2⟩
 · refine .inl ⟨?_, h2⟩
   have : ((leftOf (l.map (entOf ke ve)).toArray seen).toList).length = 0 := by simpa using h1
   rw [leftOf_map, List.length_map] at this
   exact List.eq_nil_of_length_eq_zero this
 · rw [leftOf_map] at he
   obtain ⟨y, hy, rfl⟩ := List.mem_map.1 he
   exact .inr ⟨y, hy, w1, h1, h2⟩
theorem entry_assoc {w : World} {it r since c : Nat} {seen : Array Nat} {l : List (κ × β × Nat)} {y : κ × β × Nat} (hr : IterAt w it r since (seen.push y.2.2) c) (hb : MapAt ke ve w r l c) (hy : y ∈ l) (hn : (l.map (·.2.2)).Nodup) :
 (Instr.entry (.pointer (some ⟨it, 0, none⟩))).run P w = .ok (.tuple #[ke y.1, ve y.2.1]) w := by
 refine run_entry_at (P := P) w it r since seen _ c (entOf ke ve y) hr hb ?_ ?_
 · simpa using ⟨y.1, y.2.1, y.2.2, hy, rfl⟩
 · simpa [Function.comp_def, entOf] using hn
theorem leftL_push_lt {l : List (κ × β × Nat)} {seen : Array Nat} {y : κ × β × Nat} (hy : y ∈ leftL l seen) : (leftL l (seen.push y.2.2)).length < (leftL l seen).length := by
 unfold leftL at hy ⊢
 have e : l.filter (fun x => !(seen.push y.2.2).contains x.2.2) = (l.filter fun x => !seen.contains x.2.2).filter fun x => !(x.2.2 == y.2.2) := by
  rw [List.filter_filter]
  congr 1
  funext x
  simp only [Array.contains_push, Bool.not_or]
  rw [Bool.and_comm]
 rw [e]
 generalize l.filter (fun x => !seen.contains x.2.2) = m at hy
 induction m with
 | nil => cases hy
 | cons z m ih =>
  simp only [List.filter_cons, List.length_cons]
  rcases List.mem_cons.1 hy with rfl | hy
  · simp
    have := List.length_filter_le (fun x : κ × β × Nat => !(x.2.2 == y.2.2)) m
    omega
  · have := ih hy
    split
    · simp only [List.length_cons]; omega
    · omega
theorem leftL_filter_le (l : List (κ × β × Nat)) (seen : Array Nat) (p : κ × β × Nat → Bool) : (leftL (l.filter p) seen).length ≤ (leftL l seen).length := by
 unfold leftL
 rw [List.filter_filter]
 have : l.filter (fun a => (!seen.contains a.2.2) && p a) = (l.filter fun a => !seen.contains a.2.2).filter p := by
  rw [List.filter_filter]
  congr 1
  funext x
  exact Bool.and_comm _ _
 rw [this]
 exact List.length_filter_le _ _
theorem leftL_congr {l l' : List (κ × β × Nat)} (seen : Array Nat) (h : l'.map (·.2.2) = l.map (·.2.2)) : (leftL l' seen).length = (leftL l seen).length := by
 have key : ∀ m : List (κ × β × Nat), (leftL m seen).length = ((m.map (·.2.2)).filter fun b => !seen.contains b).length := fun m => by
  rw [List.filter_map, List.length_map]
  rfl
 rw [key, key, h]
variable [DecidableEq κ]
/-- an entry struck -/
def adel (k : κ) : List (κ × β × Nat) → List (κ × β × Nat)
 | [] => []
 | x :: l => if k = x.1 then l else x :: adel k l
theorem adel_filter {k : κ} : ∀ {l : List (κ × β × Nat)}, (l.map (·.1)).Nodup → adel k l = l.filter fun x => !decide (k = x.1)
 | [], _ => rfl
 | x :: l, h => by
  rw [List.map_cons, List.nodup_cons] at h
  simp only [adel, List.filter_cons]
  by_cases hk : k = x.1
  · simp only [hk, if_true, decide_true, Bool.not_true, Bool.false_eq_true, if_false]
    symm
    rw [List.filter_eq_self]
    intro z hz
    have : x.1 ≠ z.1 := fun e => h.1 (by rw [e]; exact List.mem_map.2 ⟨z, hz, rfl⟩)
    simp [this]
  · simp only [hk, if_false, decide_false, Bool.not_false, if_true]
    rw [adel_filter h.2]
theorem adel_none {k : κ} : ∀ {l : List (κ × β × Nat)} {i : Nat}, assocIx k l i = none → adel k l = l
 | [], _, _ => rfl
 | x :: l, i, h => by
  unfold assocIx at h
  by_cases hk : k = x.1
  · rw [if_pos hk] at h; cases h
  · rw [if_neg hk] at h
    simp [adel, hk, adel_none h]
theorem adel_some {k : κ} : ∀ {l : List (κ × β × Nat)} {i j : Nat} {b : β}, assocIx k l i = some (j, b) → ∃ n, j = i + n ∧ n < l.length ∧ (adel k l).map (entOf ke ve) = (l.map (entOf ke ve)).eraseIdx n
 | [], _, _, _, h => by simp [assocIx] at h
 | x :: l, i, j, b, h => by
  unfold assocIx at h
  by_cases hk : k = x.1
  · rw [if_pos hk] at h
    obtain ⟨rfl, rfl⟩ := Prod.mk.inj (Option.some.inj h)
    exact ⟨0, rfl, by simp, by simp [adel, hk]⟩
  · rw [if_neg hk] at h
    obtain ⟨n, rfl, hn, hc⟩ := adel_some h
    exact ⟨n + 1, by omega, by simp; omega, by simp only [adel, hk, if_false, List.map_cons, List.eraseIdx_cons_succ]; rw [hc]⟩
variable {K : TypeId} {w : World} {r clock : Nat} {l : List (κ × β × Nat)} {T E : TypeId}
theorem run_delete_assoc (h : KeyEq P K ke) (hT : P.underlying T = some (.map K E)) (hm : MapAt ke ve w r l clock) (ty : TypeId) (tk : TypeId) (k : κ) :
 (Builtin.delete_ #[T, tk] ty #[.map (some r), ke k]).run P w = .ok (.tuple #[]) (World.putMap w r (.map ((adel k l).map (entOf ke ve)).toArray clock)) := by
 have hg := MapKept.run_getObj_map (P := P) hm
 unfold Builtin.delete_
 simp only [List.getElem?_toArray, List.getElem?_cons_zero, List.getElem?_cons_succ, Sem.run_bind, run_underlying hT, Result.andThen_ok, hg, h.chk, findKey_assoc h k w l]
 cases hi : assocIx k l 0 with
 | none =>
  simp only [Option.map_none, Sem.run_bind, Sem.run_pure]
  rw [MapKept.run_setObj_map _ hm, adel_none hi]
  rfl
 | some p =>
  obtain ⟨j, b⟩ := p
  obtain ⟨n, rfl, hn, hc⟩ := adel_some (ke := ke) (ve := ve) hi
  simp only [Option.map_some, Sem.run_bind, Sem.run_pure]
  rw [MapKept.run_setObj_map _ hm, hc]
  simp [World.putMap, Array.eraseIdxIfInBounds, hn]
end
section
variable {κ β : Type} {ke : κ → Value} {ve : β → Value}
/-- how many entries an iterator has still to give -/
def iterLeft (w : World) (it r : Nat) : Nat := match w.heap[it]?, w.heap[r]? with
 | some (.mapIter _ _ seen _), some (.map es _) => (leftOf es seen).size
 | _, _ => 0
theorem iterLeft_eq {w : World} {it r since c0 clock : Nat} {seen : Array Nat} {l : List (κ × β × Nat)} (hr : IterAt w it r since seen c0) (hb : MapAt ke ve w r l clock) : iterLeft w it r = (leftL l seen).length := by
 have h1 : w.heap[it]? = _ := hr
 have h2 : w.heap[r]? = _ := hb
 unfold iterLeft
 rw [h1, h2]
 show (leftOf (l.map (entOf ke ve)).toArray seen).size = _
 rw [← Array.length_toList, leftOf_map, List.length_map]
theorem IterAt.only {w w' : World} {F : Nat → Prop} {it r since c0 : Nat} {seen : Array Nat} (h : IterAt w it r since seen c0) (ho : Only F w w') (hF : ¬ F it) : IterAt w' it r since seen c0 := (ho.block it (heap_lt h) hF).trans h
theorem IterAt.below {w w' : World} {B it r since c0 : Nat} {seen : Array Nat} (h : IterAt w it r since seen c0) (ho : Below B w w') (hF : it < B) : IterAt w' it r since seen c0 := (ho.block it hF).trans h
theorem MapAt.below {w w' : World} {B r clock : Nat} {l : List (κ × β × Nat)} (h : MapAt ke ve w r l clock) (ho : Below B w w') (hF : r < B) : MapAt ke ve w' r l clock := (ho.block r hF).trans h
theorem IterAt.put {w : World} {it r since c0 : Nat} {seen : Array Nat} (h : it < w.heap.size) : IterAt (World.putMap w it (.mapIter (some r) since seen c0)) it r since seen c0 := by
 simp [IterAt, World.putMap, h]
theorem MapAt.putOther {w : World} {it r clock : Nat} {l : List (κ × β × Nat)} (h : MapAt ke ve w r l clock) (hne : r ≠ it) (o : Obj) : MapAt ke ve (World.putMap w it o) r l clock := by
 unfold MapAt at h ⊢
 simpa [World.putMap, Ne.symm hne] using h
theorem eq_of_nodup_map {α γ : Type} (g : α → γ) : ∀ (l : List α), (l.map g).Nodup → ∀ x ∈ l, ∀ y ∈ l, g x = g y → x = y
 | a :: l, hn, x, hx, y, hy, e => by
  rw [List.map_cons, List.nodup_cons] at hn
  rcases List.mem_cons.1 hx with rfl | hx2 <;> rcases List.mem_cons.1 hy with rfl | hy2
  · rfl
  · exact absurd (by rw [e]; exact List.mem_map.2 ⟨y, hy2, rfl⟩) hn.1
  · exact absurd (by rw [← e]; exact List.mem_map.2 ⟨x, hx2, rfl⟩) hn.1
  · exact eq_of_nodup_map g l hn.2 x hx2 y hy2 e
end
end
section
open Go.RowKit
section
variable {w : World}
theorem zeroSec (w : World) : (zeroValue 84).run Tryz.prog w = .ok (.agg #[.int .i64 0, .int .i64 0]) w := by kernel_rfl
theorem dsettle1_c (w : World) (p : Int × Int) (f : Int) (g : Nat) (hg : w.cell? ⟨g, 0, none⟩ = some (.int .i64 f)) :
 Calls Tryz.prog 110 #[keyS p, .pointer (some ⟨g, 0, none⟩)] w fun e w' => e = .returned (.bool (p.1 == f)) ∧ Below w.heap.size w w' := by
 have hlt : g < w.heap.size := World.block_lt_of_cell? w _ hg
 have hne : ¬ w.heap.size = g := by omega
 go_enter Tryz.func110, Tryz.ntmps110
 go_wp2
 go_ret
 exact ⟨rfl, (Below.refl _ _).alloc (Nat.le_refl _) _⟩
theorem dsettle2_c (w : World) (p : Int × Int) (v : Bool) (f : Int) (g : Nat) (hg : w.cell? ⟨g, 0, none⟩ = some (.int .i64 f)) :
 Calls Tryz.prog 112 #[keyS p, .bool v, .pointer (some ⟨g, 0, none⟩)] w fun e w' => e = .returned (.bool (p.1 == f)) ∧ Below w.heap.size w w' := by
 have hlt : g < w.heap.size := World.block_lt_of_cell? w _ hg
 have hne : ¬ w.heap.size = g := by omega
 go_enter Tryz.func112, Tryz.ntmps112
 go_wp2
 go_ret
 exact ⟨rfl, (Below.refl _ _).alloc (Nat.le_refl _) _⟩
theorem secCells_cons (p : Int × Int) (q : List (Int × Int)) : secCells (p :: q) = .int .i64 p.1 :: .int .i64 p.2 :: secCells q := rfl
theorem secCells_get : ∀ (q : List (Int × Int)) (j : Nat) (hj : j < q.length), (secCells q)[j * 2]? = some (.int .i64 q[j].1) ∧ (secCells q)[j * 2 + 1]? = some (.int .i64 q[j].2)
 | [], j, hj => by simp at hj
 | p :: q, 0, _ => ⟨rfl, rfl⟩
 | p :: q, j + 1, hj => by
  have := secCells_get q j (by simpa using hj)
  rw [secCells_cons, show (j + 1) * 2 = j * 2 + 1 + 1 by omega]
  simpa using this
theorem idxFSec_c (w : World) (S : Nat → Prop) (A : Option Addr) (cap : Nat) (q : List (Int × Int)) (hr : Reads w S 2 A q.length (secCells q)) (f : Int) (g : Nat) (hg : w.cell? ⟨g, 0, none⟩ = some (.int .i64 f)) (hn : q.length ≤ 100000000) :
 Calls Tryz.prog 126 #[.slice A q.length cap, .func (.func 110) #[] #[.pointer (some ⟨g, 0, none⟩)]] w
  fun e w' => (∃ i : Int, e = .returned (.int .i64 i) ∧ ((i = -1 ∧ ∀ p ∈ q, (p.1 == f) = false) ∨ ∃ k : Nat, i = k ∧ (∃ x, q[k]? = some x ∧ (x.1 == f) = true) ∧ ∀ p ∈ q.take k, (p.1 == f) = false)) ∧ Below w.heap.size w w' := by
 rcases Nat.eq_zero_or_pos q.length with h0 | h0
 · have hq := Lib.hid (List.eq_nil_of_length_eq_zero h0)
   rw [h0]
   clear hr
   go_enter Tryz.func126, Tryz.ntmps126
   go_wp2
   refine wp_loop_rounds 1 ?_
   rw [rounds_succ]
   go_wp2
   go_ret
   exact ⟨⟨_, rfl, .inl ⟨rfl, by rw [hq.out]; simp⟩⟩, Below.refl _ _⟩
 · obtain ⟨b, off, rfl, hS, hb, hc⟩ := hr.form h0 (by decide)
   have hC := Lib.hid hc
   clear hc hr
   go_enter Tryz.func126, Tryz.ntmps126
   go_wp2
   go_loopw [8] (fun v wr => ∃ j : Nat, j ≤ q.length ∧ v = .int .i64 (j : Int) ∧ (∀ p ∈ q.take j, (p.1 == f) = false) ∧ Below w.heap.size w wr) (fun v _ => q.length - (intOf v).toNat)
   case atStart => exact ⟨0, by omega, by go_num, by simp, Below.refl _ _⟩
   case round =>
    obtain ⟨j, hj, rfl, hp, hB⟩ := hrel
    by_cases hlt : j < q.length
    · obtain ⟨c1, c2⟩ := secCells_get q j hlt
      have d1 := (hB.cell (p := ⟨b, off + j * 2, none⟩) hb).trans (hC.out _ _ c1)
      have d2 := (hB.cell (p := ⟨b, off + j * 2 + 1, none⟩) hb).trans (hC.out _ _ c2)
      have hc := dsettle1_c wr q[j] f g ((hB.cell (p := ⟨g, 0, none⟩) (World.block_lt_of_cell? w _ hg)).trans hg)
      cases hb : (q[j].1 == f) <;> rw [hb] at hc
      · go_wp2_with (go_at_call 110; refine hc.mono ?_; rintro e w2 ⟨rfl, hB2⟩)
        go_roundw
        case rel =>
         refine ⟨j + 1, by omega, by go_num, fun p hm => ?_, hB.trans (hB2.mono hB.size)⟩
         rw [List.take_add_one, List.getElem?_eq_getElem hlt] at hm
         rcases List.mem_append.1 hm with hm | hm
         · exact hp p hm
         · simp at hm; rw [hm]; exact hb
        case measure => simp [intOf]; omega
      · go_wp2_with (go_at_call 110; refine hc.mono ?_; rintro e w2 ⟨rfl, hB2⟩)
        go_ret
        exact ⟨⟨_, rfl, .inr ⟨j, rfl, ⟨_, List.getElem?_eq_getElem hlt, hb⟩, hp⟩⟩, hB.trans (hB2.mono hB.size)⟩
    · go_wp2
      go_ret
      exact ⟨⟨_, rfl, .inl ⟨rfl, by rw [List.take_of_length_le (by omega)] at hp; exact hp⟩⟩, hB⟩
theorem setRow_blk {w : World} {g : Nat} {t : TypeId} {cs cs' : Array Value} (h : Blk w g t cs) : Blk (w.setRow g cs') g t cs' := setRow_heap w g cs cs' t _ h
theorem setRow_only {F : Nat → Prop} {a b : World} (h : Only F a b) {g : Nat} (hg : F g ∨ a.heap.size ≤ g) (cs : Array Value) : Only F a (b.setRow g cs) :=
 ⟨h.os, h.tape, h.output, by simpa [World.setRow] using h.size, fun i hi hn => by
  have hne : g ≠ i := by
   rintro rfl
   rcases hg with hg | hg
   · exact hn hg
   · omega
  have : (b.setRow g cs).heap[i]? = b.heap[i]? := by
   simp only [World.setRow, Array.getElem?_modify, hne, if_false]
  exact this.trans (h.block i hi hn)⟩
/-- 'clear' of a part of a block -/
theorem run_clear_blk {P : Program} {t e : TypeId} {z : Value} (ht : P.underlying t = some (.slice e)) (hv : ∀ w, (zeroValue e).run P w = .ok z w) (h1 : ∀ u ∈ z.cells, u.oneCell' = true) {g : Nat} {e' : TypeId} {cs : List Value} (hb : Blk w g e' cs.toArray) (o n c : Nat) (hl : o + n * z.cells.size ≤ cs.length) (hn : 0 < n) :
 ∃ cs' : List Value, (∀ ty, (Builtin.clear_ #[t] ty #[.slice (some ⟨g, o, none⟩) n c]).run P w = .ok (.tuple #[]) (w.setRow g cs'.toArray)) ∧ cs'.length = cs.length ∧ cs'.take o = cs.take o := by
 have hz : (Builtin.zeroCells z.cells n).toList.length = n * z.cells.size := by simp [Builtin.zeroCells]
 have h := run_storeCells_at (P := P) g o e' (Builtin.zeroCells z.cells n).toList 0 cs.toArray w hb (by rw [hz]; simpa using hl) (fun u hu => by
  simp only [Builtin.zeroCells, Array.toList_map, List.mem_map] at hu
  obtain ⟨i, hi, rfl⟩ := hu
  rcases Nat.eq_zero_or_pos z.cells.size with h0 | h0
  · simp [h0] at hi
  · have hlt : i % z.cells.size < z.cells.size := Nat.mod_lt _ h0
    rw [getElem!_pos z.cells _ hlt]
    exact h1 _ (Array.getElem_mem hlt))
 refine ⟨List.take (o + 0) cs ++ (Builtin.zeroCells z.cells n).toList ++ List.drop (o + 0 + (Builtin.zeroCells z.cells n).toList.length) cs, ?_, ?_, ?_⟩
 · intro ty
   obtain ⟨m, rfl⟩ : ∃ m, n = m + 1 := ⟨n - 1, by omega⟩
   unfold Builtin.clear_
   simp only [List.getElem?_toArray, List.getElem?_cons_zero, Sem.run_bind, run_underlying ht, Result.andThen_ok, hv, h, Sem.run_pure]
 · simp only [List.length_append, List.length_take, List.length_drop, hz]
   omega
 · rw [Nat.add_zero, List.append_assoc, List.take_append_of_le_length (by simp; omega), List.take_take, Nat.min_self]
def keepP (f : Int) (p : Int × Int) : Bool := !(p.1 == f)
/-- the row in the making: i kept, j looked at -/
structure DelRow (w : World) (g : Nat) (N : Nat) (q : List (Int × Int)) (f : Int) (i j : Nat) (cs : List Value) : Prop where
 blk : Blk w g 84 cs.toArray
 len : cs.length = N
 cap : q.length * 2 ≤ N
 ij : i ≤ j
 jn : j ≤ q.length
 cnt : ((q.take j).filter (keepP f)).length = i
 done : cs.take (2 * i) = secCells ((q.take j).filter (keepP f))
 rest : ∀ (k : Nat) (u : Value), 2 * j ≤ k → (secCells q)[k]? = some u → cs[k]? = some u
theorem length_secCells (q : List (Int × Int)) : (secCells q).length = 2 * q.length := by
 induction q with
 | nil => rfl
 | cons p q ih => rw [secCells_cons]; simp [ih]; omega
theorem secCells_take (q : List (Int × Int)) : ∀ k, secCells (q.take k) = (secCells q).take (2 * k) := by
 induction q with
 | nil => intro k; simp [secCells]
 | cons p q ih =>
  intro k
  cases k with
  | zero => rfl
  | succ k => rw [List.take_succ_cons, secCells_cons, secCells_cons, ih, show 2 * (k + 1) = 2 * k + 1 + 1 by omega]; rfl
theorem secCells_append (q q' : List (Int × Int)) : secCells (q ++ q') = secCells q ++ secCells q' := by simp [secCells]
theorem take_succ_getD {α : Type} (q : List α) (j : Nat) (hj : j < q.length) : q.take (j + 1) = q.take j ++ [q[j]] := by
 rw [List.take_add_one, List.getElem?_eq_getElem hj]; rfl
theorem filter_take_succ (p : Int × Int → Bool) (q : List (Int × Int)) (j : Nat) (hj : j < q.length) : (q.take (j + 1)).filter p = (q.take j).filter p ++ if p q[j] then [q[j]] else [] := by
 rw [take_succ_getD q j hj, List.filter_append]
 congr 1
 by_cases h : p q[j] = true
 · rw [if_pos h, List.filter_cons, if_pos h]; rfl
 · rw [if_neg h, List.filter_cons, if_neg h]; rfl
theorem DelRow.cells {g N : Nat} {q : List (Int × Int)} {f : Int} {i j : Nat} {cs : List Value} (h : DelRow w g N q f i j cs) (hj : j < q.length) : w.cell? ⟨g, j * 2, none⟩ = some (.int .i64 q[j].1) ∧ w.cell? ⟨g, j * 2 + 1, none⟩ = some (.int .i64 q[j].2) := by
 obtain ⟨c1, c2⟩ := secCells_get q j hj
 exact ⟨(h.blk.cell _).trans (by simpa using h.rest _ _ (by omega) c1), (h.blk.cell _).trans (by simpa using h.rest _ _ (by omega) c2)⟩
theorem DelRow.drop {g N : Nat} {q : List (Int × Int)} {f : Int} {i j : Nat} {cs : List Value} (h : DelRow w g N q f i j cs) (hj : j < q.length) (hk : keepP f q[j] = false) : DelRow w g N q f i (j + 1) cs :=
 { h with ij := by have := h.ij; omega, jn := by omega, cnt := by rw [filter_take_succ _ q j hj, hk]; simp [h.cnt], done := by rw [h.done, filter_take_succ _ q j hj, hk]; simp, rest := fun k u hk hu => h.rest k u (by omega) hu }
theorem DelRow.keep_ {g N : Nat} {q : List (Int × Int)} {f : Int} {i j : Nat} {cs : List Value} (h : DelRow w g N q f i j cs) (hj : j < q.length) (hk : keepP f q[j] = true) {w' : World}
 (hb : Blk w' g 84 ((cs.toArray.setIfInBounds (i * 2) (.int .i64 q[j].1)).setIfInBounds (i * 2 + 1) (.int .i64 q[j].2))) : DelRow w' g N q f (i + 1) (j + 1) ((cs.set (i * 2) (.int .i64 q[j].1)).set (i * 2 + 1) (.int .i64 q[j].2)) := by
 have h1 := h.ij
 have h2 := h.cap
 have h3 := h.len
 exact {
  blk := by simpa using hb
  len := by simpa using h.len
  cap := h.cap
  ij := by omega
  jn := by omega
  cnt := by rw [filter_take_succ _ q j hj, hk]; simp [h.cnt]
  done := by
   rw [filter_take_succ _ q j hj, hk, if_pos rfl, secCells_append, ← h.done]
   apply List.ext_getElem
   · simp [secCells]; omega
   · intro k h4 h5
     simp only [List.getElem_take, List.getElem_set]
     simp only [List.length_take, List.length_set] at h4
     by_cases h6 : k < 2 * i
     · rw [if_neg (by omega), if_neg (by omega), List.getElem_append_left (by simp; omega), List.getElem_take]
     · rw [List.getElem_append_right (by simp; omega)]
       simp only [secCells_cons, List.length_take]
       have h7 : k = i * 2 ∨ k = i * 2 + 1 := by omega
       rcases h7 with h7 | h7
       · subst h7
         rw [if_neg (by omega), if_pos rfl]
         have : i * 2 - min (2 * i) cs.length = 0 := by omega
         simp [this]
       · subst h7
         rw [if_pos rfl]
         have : i * 2 + 1 - min (2 * i) cs.length = 1 := by omega
         simp [this]
  rest := fun k u hk hu => by
   rw [List.getElem?_set_ne (by omega), List.getElem?_set_ne (by omega)]
   exact h.rest k u (by omega) hu }
theorem delFSec_c (w : World) (v : Value) (q : List (Int × Int)) (hq : w.ownsRow 0 84 2 v q.length (secCells q)) (f : Int) (gf : Nat) (hg : w.cell? ⟨gf, 0, none⟩ = some (.int .i64 f)) (hn : q.length ≤ 100000000) (hne : v.ownBlock ≠ some gf) :
 Calls Tryz.prog 109 #[v, .func (.func 110) #[] #[.pointer (some ⟨gf, 0, none⟩)]] w
  fun e w' => ∃ A c, e = .returned (.slice A (q.filter (keepP f)).length c) ∧ w'.ownsRow 0 84 2 (.slice A (q.filter (keepP f)).length c) (q.filter (keepP f)).length (secCells (q.filter (keepP f))) ∧ (Value.slice A (q.filter (keepP f)).length c).ownBlock = v.ownBlock ∧ Only (fun k => v.ownBlock = some k) w w' := by
 obtain ⟨A, cap, rfl, hc1, hc2, hr⟩ := Reads.of_own hq
 have hi := idxFSec_c w _ A cap q hr f gf hg hn
 by_cases hall : ∀ p ∈ q, (p.1 == f) = false
 · have hfe : q.filter (keepP f) = q := List.filter_eq_self.2 fun p hp => by simp [keepP, hall p hp]
   have Hq := Lib.hid hq
   rw [hfe]
   clear hr hq
   go_enter Tryz.func109, Tryz.ntmps109
   have hi2 := hi.mono (R' := fun e w' => e = .returned (.int .i64 (-1)) ∧ Below w.heap.size w w') (by
    rintro e w1 ⟨⟨i, rfl, hcase⟩, hB⟩
    rcases hcase with ⟨rfl, _⟩ | ⟨k, _, ⟨x, hx, hx2⟩, _⟩
    · exact ⟨rfl, hB⟩
    · have := hall x (List.mem_of_getElem? hx)
      rw [this] at hx2; cases hx2)
   clear hi
   go_wp2_with (go_at_call 126; refine hi2.mono ?_; rintro e w1 ⟨rfl, hB⟩)
   go_ret
   exact ⟨A, cap, rfl, own_only Hq.out (Only.of_below (F := NoF) hB (Nat.le_refl _)) fun _ _ h => h, rfl, Only.of_below hB (Nat.le_refl _)⟩
 · obtain ⟨k, hk, hk2, hk3⟩ : ∃ k, ∃ hk : k < q.length, (q[k].1 == f) = true ∧ ∀ p ∈ q.take k, (p.1 == f) = false := by
    have key : ∀ (l : List (Int × Int)), (¬ ∀ p ∈ l, (p.1 == f) = false) → ∃ k, ∃ hk : k < l.length, (l[k].1 == f) = true ∧ ∀ p ∈ l.take k, (p.1 == f) = false := by
     intro l
     induction l with
     | nil => intro h; exact absurd (by simp) h
     | cons x l ih =>
      intro h
      cases hx : (x.1 == f) with
      | true => exact ⟨0, by simp, hx, by simp⟩
      | false =>
       obtain ⟨k, hk, h1, h2⟩ := ih fun h' => h fun p hp => by
        rcases List.mem_cons.1 hp with rfl | hp
        · exact hx
        · exact h' p hp
       refine ⟨k + 1, by simpa using hk, by simpa using h1, fun p hp => ?_⟩
       rw [List.take_succ_cons] at hp
       rcases List.mem_cons.1 hp with rfl | hp
       · exact hx
       · exact h2 p hp
    exact key q hall
   have hi2 := hi.mono (R' := fun e w' => e = .returned (.int .i64 (k : Int)) ∧ Below w.heap.size w w') (by
    rintro e w1 ⟨⟨i, rfl, hcase⟩, hB⟩
    rcases hcase with ⟨_, h⟩ | ⟨k', rfl, ⟨x, hx, hx2⟩, h⟩
    · have := h _ (List.getElem_mem hk)
      rw [this] at hk2; cases hk2
    · refine ⟨?_, hB⟩
      have : k = k' := by
       rcases Nat.lt_trichotomy k k' with h1 | h1 | h1
       · have := h q[k] (by rw [List.mem_take_iff_getElem]; exact ⟨k, by omega, rfl⟩)
         rw [this] at hk2; cases hk2
       · exact h1
       · have := hk3 x (by
          obtain ⟨h2, rfl⟩ := List.getElem?_eq_some_iff.1 hx
          rw [List.mem_take_iff_getElem]; exact ⟨k', by omega, rfl⟩)
         rw [this] at hx2; cases hx2
      rw [this])
   clear hi
   rcases hq.2 with ⟨e, h0⟩ | ⟨g, cap', cur, e, _, hgb, hnc, hcm, hcs, ht⟩
   · omega
   obtain ⟨rfl, rfl⟩ : A = some ⟨g, 0, none⟩ ∧ cap = cap' := by simpa using e
   have hgf : ¬ g = gf := fun e => hne (by simp [Value.ownBlock, e])
   have HR : DelRow w g (cap * 2) q f k (k + 1) cur.toList := {
    blk := hgb
    len := by simp [hcs]
    cap := by omega
    ij := by omega
    jn := by omega
    cnt := by
     rw [filter_take_succ _ q k hk, show keepP f q[k] = false by simp [keepP, hk2], List.filter_eq_self.2 fun p hp => by simp [keepP, hk3 p hp]]
     simp; omega
    done := by
     rw [filter_take_succ _ q k hk, show keepP f q[k] = false by simp [keepP, hk2], List.filter_eq_self.2 fun p hp => by simp [keepP, hk3 p hp]]
     simp only [Bool.false_eq_true, if_false, List.append_nil]
     rw [secCells_take, ← ht, List.take_take]
     congr 1
     omega
    rest := fun k u hk hu => by
     rw [← ht, List.getElem?_take] at hu
     split at hu
     · exact hu
     · cases hu }
   have hkn : ((k : Int) == -1) = false := by
    have : (k : Int) ≠ -1 := by omega
    simp [this]
   have HR0 := Lib.hid HR
   have Hk := Lib.hid hk3
   have Hq := Lib.hid hq
   clear HR hq ht hgb hr e hk3
   go_enter Tryz.func109, Tryz.ntmps109
   go_wp2_with (go_at_call 126; refine hi2.mono ?_; rintro e w1 ⟨rfl, hB⟩; have HB1 := Lib.hid hB)
   go_loopw [5, 6] (fun v5 v6 wr => ∃ (i j : Nat) (cs : List Value), v5 = .int .i64 (i : Int) ∧ v6 = .int .i64 (j : Int) ∧ DelRow wr g (cap * 2) q f i j cs ∧ i < j ∧ Only (fun k => k = g) w wr) (fun _ v6 _ => q.length - (intOf v6).toNat)
   case atStart => exact ⟨k, k + 1, cur.toList, by go_num, by go_num, { HR0.out with blk := HR0.out.blk.below HB1.out HR0.out.blk.lt }, by omega, Only.of_below HB1.out (Nat.le_refl _)⟩
   case round =>
    obtain ⟨i, j, cs, rfl, rfl, hD, hin, hO⟩ := hrel
    have HD := Lib.hid hD
    have HO := Lib.hid hO
    have hj := hD.jn
    have hgl := hD.blk.lt
    clear hD hO
    by_cases hlt : j < q.length
    · obtain ⟨c1, c2⟩ := HD.out.cells hlt
      have hne2 : ¬ wr.heap.size = g := by omega
      have hgfc := HO.out.cell (p := ⟨gf, 0, none⟩) (World.block_lt_of_cell? w _ hg) (fun e => hgf e.symm)
      have hcl := dsettle1_c (wr.alloc (.cells #[.int .i64 q[j].1, .int .i64 q[j].2] 84)) q[j] f gf (by rw [World.cell?_alloc_lt _ _ _ (World.block_lt_of_cell? _ _ (hgfc.trans hg))]; exact hgfc.trans hg)
      cases hb : (q[j].1 == f) <;> rw [hb] at hcl
      · have h1 := HD.out.ij
        have h2 := HD.out.cap
        have h3 := HD.out.len
        go_wp2_with (go_at_call 110; refine hcl.mono ?_; rintro e w2 ⟨rfl, hB2⟩; have hP := (Blk.new wr 84 #[.int .i64 q[j].1, .int .i64 q[j].2]).below hB2 (by simp); have p0 := hP.cell 0; have p1 := hP.cell 1; have HG := Lib.hid ((HD.out.blk.alloc (.cells #[.int .i64 q[j].1, .int .i64 q[j].2] 84)).below hB2 (by simp; omega)); have i0 := (HG.out.cell (i * 2)).trans (Array.getElem?_eq_getElem (show i * 2 < cs.toArray.size by simp; omega)); have i1 := (HG.out.cell (i * 2 + 1)).trans (Array.getElem?_eq_getElem (show i * 2 + 1 < cs.toArray.size by simp; omega)); have z0 := HG.out.frozen (i * 2); have z1 := HG.out.frozen (i * 2 + 1); have HB2 := Lib.hid hB2; clear hP hB2)
        go_roundw
        case rel =>
         have hk : keepP f q[j] = true := by simp [keepP, hb]
         exact ⟨i + 1, j + 1, _, by go_num, by go_num, HD.out.keep_ hlt hk ((HG.out.set_ (i * 2) _).set_ (i * 2 + 1) _), by omega, ((((HO.out.alloc _).trans' (Only.of_below HB2.out (Nat.le_refl _))).setCell (.inl rfl) _).setCell (.inl rfl) _)⟩
        case measure => simp [intOf]; omega
      · go_wp2_with (go_at_call 110; refine hcl.mono ?_; rintro e w2 ⟨rfl, hB2⟩; have HB2 := Lib.hid hB2; clear hB2)
        go_roundw
        case rel =>
         have hk : keepP f q[j] = false := by simp [keepP, hb]
         exact ⟨i, j + 1, cs, by go_num, by go_num, ({ HD.out with blk := ((HD.out.blk.alloc (.cells #[.int .i64 q[j].1, .int .i64 q[j].2] 84)).below HB2.out (by simp; omega)) } : DelRow _ g (cap * 2) q f i j cs).drop hlt hk, by omega, ((HO.out.alloc _).trans' (Only.of_below HB2.out (Nat.le_refl _)))⟩
        case measure => simp [intOf]; omega
    · have h1 := HD.out.ij
      have h2 := HD.out.cap
      have h3 := HD.out.len
      have hcnt := HD.out.cnt
      rw [List.take_of_length_le (by omega)] at hcnt
      obtain ⟨ti, hti, hz0, hz1, hz2⟩ := info_parts info_Sec
      obtain ⟨cs', hcl, hl', ht'⟩ := run_clear_blk (P := Tryz.prog) Tryz.underlying56 (fun w => zeroSec w) (by decide) HD.out.blk (i * 2) (q.length - i) (cap - i) (by show i * 2 + (q.length - i) * 2 ≤ cs.length; omega) (by omega)
      have hci : ¬ cap = i := by omega
      have HB' := Lib.hid (setRow_blk (cs' := cs'.toArray) HD.out.blk)
      have HL := Lib.hid (And.intro hl' ht')
      clear hl' ht' hti hz0 hz1 hz2
      have hown : (wr.setRow g cs'.toArray).ownsRow 0 84 2 (.slice (some ⟨g, 0, none⟩) i cap) i (secCells (q.filter (keepP f))) := by
       refine ⟨by rw [length_secCells, hcnt]; omega, .inr ⟨g, cap, cs'.toArray, rfl, Nat.zero_le _, HB'.out, by omega, hcm, by simp [HL.out.1]; omega, ?_⟩⟩
       have hd := HD.out.done
       rw [List.take_of_length_le (l := q) (by omega), Nat.mul_comm] at hd
       rw [← hd, ← HL.out.2]
      go_wp2
      go_ret
      rw [hcnt]
      exact ⟨_, _, rfl, hown, rfl, setRow_only (HO.out.mono fun k hk => by simp [Value.ownBlock, hk]) (.inl (by simp [Value.ownBlock])) _⟩
end
end
section
open Go.RowKit
section
variable {w : World}
/-- some of a map's entries have come, of these the ones that the test names are struck -/
def struckL (f : Int) (l : List ((Int × Int) × Bool × Nat)) (seen : Array Nat) : List ((Int × Int) × Bool × Nat) := l.filter fun x => !(seen.contains x.2.2 && (x.1.1 == f))
theorem struckL_start (f : Int) (l : List ((Int × Int) × Bool × Nat)) : struckL f l #[] = l := by simp [struckL]
theorem struckL_end {f : Int} {l : List ((Int × Int) × Bool × Nat)} {seen : Array Nat} (h : leftL (struckL f l seen) seen = []) : struckL f l seen = l.filter fun x => keepP f x.1 := by
 unfold struckL keepP
 apply List.filter_congr
 intro x hx
 cases hs : seen.contains x.2.2 with
 | true => simp
 | false =>
  exfalso
  have : x ∈ leftL (struckL f l seen) seen := by
   unfold leftL struckL
   rw [List.mem_filter, List.mem_filter]
   simp only [hs]
   exact ⟨⟨hx, rfl⟩, rfl⟩
  rw [h] at this
  cases this
theorem struckL_stays {f : Int} {l : List ((Int × Int) × Bool × Nat)} {seen : Array Nat} {y : (Int × Int) × Bool × Nat} (hn : (l.map (·.2.2)).Nodup) (hy : y ∈ l) (hf : (y.1.1 == f) = false) : struckL f l (seen.push y.2.2) = struckL f l seen := by
 unfold struckL
 apply List.filter_congr
 intro x hx
 rw [Array.contains_push]
 by_cases he : x.2.2 = y.2.2
 · have : x = y := eq_of_nodup_map _ l hn x hx y hy he
   subst this
   simp [hf]
 · have : (x.2.2 == y.2.2) = false := by simp [he]
   rw [this, Bool.or_false]
theorem struckL_struck {f : Int} {l : List ((Int × Int) × Bool × Nat)} {seen : Array Nat} {y : (Int × Int) × Bool × Nat} (hk : (l.map (·.1)).Nodup) (hn : (l.map (·.2.2)).Nodup) (hy : y ∈ l) (hf : (y.1.1 == f) = true) : adel y.1 (struckL f l seen) = struckL f l (seen.push y.2.2) := by
 unfold struckL
 rw [adel_filter (hk.sublist ((List.filter_sublist).map _))]
 rw [List.filter_filter]
 apply List.filter_congr
 intro x hx
 rw [Array.contains_push]
 by_cases he : x = y
 · subst he
   simp [hf]
 · have h1 : ¬ y.1 = x.1 := fun e => he (eq_of_nodup_map _ l hk x hx y hy e.symm)
   have h2 : ¬ x.2.2 = y.2.2 := fun e => he (eq_of_nodup_map _ l hn x hx y hy e)
   have h3 : (x.2.2 == y.2.2) = false := by simp [h2]
   rw [h3, Bool.or_false]
   simp [h1]
theorem mdelFSec_c (w : World) (r c : Nat) (l : List ((Int × Int) × Bool × Nat)) (hm : MapAt keyS valB w r l c) (hE : Entries l c) (f : Int) (gf : Nat) (hg : w.cell? ⟨gf, 0, none⟩ = some (.int .i64 f)) :
 Calls Tryz.prog 111 #[.map (some r), .func (.func 112) #[] #[.pointer (some ⟨gf, 0, none⟩)]] w
  fun e w' => e = .returned (.tuple #[]) ∧ MapAt keyS valB w' r (l.filter fun x => keepP f x.1) c ∧ Only (fun k => k = r) w w' := by
 have hrl := heap_lt hm
 have hgl := World.block_lt_of_cell? w _ hg
 have hgr : ¬ gf = r := fun e => by
  have : w.cell? ⟨r, 0, none⟩ = none := by simp [World.cell?, show w.heap[r]? = _ from hm]
  rw [e, this] at hg; cases hg
 have hrun := run_range_map (P := Tryz.prog) w 55 84 4 r (l.map (entOf keyS valB)).toArray c Tryz.underlying55 hm
 go_enter Tryz.func111, Tryz.ntmps111
 go_wp2
 have HE := Lib.hid hE
 have HM := Lib.hid hm
 clear hE hm hrun
 go_loopw [8] (fun _ wr => ∃ (seen : Array Nat) (c0 : Nat), IterAt wr w.heap.size r c seen c0 ∧ c ≤ c0 ∧ MapAt keyS valB wr r (struckL f l seen) c ∧ Only (fun k => k = r) w wr) (fun _ wr => iterLeft wr w.heap.size r)
 case atStart => exact ⟨#[], c, heap_alloc_new w _, Nat.le_refl _, by rw [struckL_start]; exact HM.out.alloc _, (Only.refl _ w).alloc _⟩
 case round =>
  obtain ⟨seen, c0, hI, hc0, hM, hO⟩ := hrel
  have hlt := heap_lt hI
  have HI := Lib.hid hI
  have HMr := Lib.hid hM
  have HO := Lib.hid hO
  rcases next_assoc (P := Tryz.prog) 0 hI hM (fun y hy => HE.out.lt y (List.mem_filter.1 hy).1) hc0 with ⟨hl, hn⟩ | ⟨y, hy, w1, hw1, hn⟩
  · clear hI hM hO
    go_wp2
    go_end0
    exact ⟨rfl, by rw [← struckL_end hl]; exact HMr.out, HO.out⟩
  · have hys : y ∈ struckL f l seen := (List.mem_filter.1 hy).1
    have hyl : y ∈ l := (List.mem_filter.1 hys).1
    have h1 : w1.heap = wr.heap := by rcases hw1 with rfl | rfl <;> rfl
    have hO1 : Only (fun k => k = r) w w1 := by rcases hw1 with rfl | rfl; exact hO; exact hO.drew
    have hs1 : w1.heap.size = wr.heap.size := by rw [h1]
    have hit1 : w.heap.size < w1.heap.size := by omega
    have hM1 : MapAt keyS valB w1 r (struckL f l seen) c := by unfold MapAt; rw [h1]; exact hM
    have hne : r ≠ w.heap.size := by omega
    have HI2 := Lib.hid (IterAt.put (w := w1) (r := r) (since := c) (seen := seen.push y.2.2) (c0 := c) hit1)
    have HM2 := Lib.hid (hM1.putOther hne (.mapIter (some r) c (seen.push y.2.2) c))
    have HO2 := Lib.hid (hO1.putMap (r := w.heap.size) (.inr (Nat.le_refl _)) (.mapIter (some r) c (seen.push y.2.2) c))
    have hnb : ((struckL f l seen).map (·.2.2)).Nodup := HE.out.born.sublist ((List.filter_sublist).map _)
    have hs2 : (World.putMap w1 w.heap.size (.mapIter (some r) c (seen.push y.2.2) c)).heap.size = wr.heap.size := by simp [World.putMap, hs1]
    generalize World.putMap w1 w.heap.size (.mapIter (some r) c (seen.push y.2.2) c) = W2 at hn HI2 HM2 HO2 hs2
    have hen := entry_assoc (P := Tryz.prog) HI2.out HM2.out hys hnb
    have hgc := (HO2.out.cell (p := ⟨gf, 0, none⟩) hgl hgr).trans hg
    have hcl := dsettle2_c (W2.alloc (.cells #[.int .i64 y.1.1, .int .i64 y.1.2] 84)) y.1 y.2.1 f gf (by rw [World.cell?_alloc_lt _ _ _ (World.block_lt_of_cell? _ _ hgc)]; exact hgc)
    have hdl := fun W hW ty => run_delete_assoc (P := Tryz.prog) (w := W) keyEqS Tryz.underlying55 hW ty 84 y.1 (ke := keyS) (ve := valB) (l := struckL f l seen) (r := r) (clock := c)
    clear hI hM hO hM1 hO1
    cases hb : (y.1.1 == f) <;> rw [hb] at hcl
    · go_wp2_with (go_at_call 112; refine hcl.mono ?_; rintro e w3 ⟨rfl, hB2⟩; have HB2 := Lib.hid hB2; clear hB2)
      have HM3 := (HM2.out.alloc (.cells #[.int .i64 y.1.1, .int .i64 y.1.2] 84)).below HB2.out (by simp; omega)
      have HI3 := (HI2.out.only (Only.refl NoF W2 |>.alloc (.cells #[.int .i64 y.1.1, .int .i64 y.1.2] 84)) id).below HB2.out (by simp; omega)
      have HO3 := (HO2.out.alloc (.cells #[.int .i64 y.1.1, .int .i64 y.1.2] 84)).trans' (Only.of_below HB2.out (Nat.le_refl _))
      go_roundw
      case rel =>
       refine ⟨seen.push y.2.2, c, HI3, Nat.le_refl _, ?_, HO3⟩
       rw [struckL_stays HE.out.born hyl hb]
       exact HM3
      case measure =>
       rw [iterLeft_eq HI.out HMr.out, iterLeft_eq HI3 HM3]
       exact leftL_push_lt hy
    · go_wp2_with (go_at_call 112; refine hcl.mono ?_; rintro e w3 ⟨rfl, hB2⟩; have hP := (Blk.new W2 84 #[.int .i64 y.1.1, .int .i64 y.1.2]).below hB2 (by simp); have p0 := hP.cell 0; have p1 := hP.cell 1; rw [hs2] at p0 p1; have hM3 := (HM2.out.alloc (.cells #[.int .i64 y.1.1, .int .i64 y.1.2] 84)).below hB2 (by simp; omega); have HB2 := Lib.hid hB2; clear hB2 hP)
      have HM3 := (HM2.out.alloc (.cells #[.int .i64 y.1.1, .int .i64 y.1.2] 84)).below HB2.out (by simp; omega)
      have HI3 := (HI2.out.only (Only.refl NoF W2 |>.alloc (.cells #[.int .i64 y.1.1, .int .i64 y.1.2] 84)) id).below HB2.out (by simp; omega)
      have HO3 := (HO2.out.alloc (.cells #[.int .i64 y.1.1, .int .i64 y.1.2] 84)).trans' (Only.of_below HB2.out (Nat.le_refl _))
      go_roundw
      case rel =>
       refine ⟨seen.push y.2.2, c, HI3.only (Only.refl (fun k => k = r) _ |>.putMap (.inl rfl) _) (fun e => hne e.symm), Nat.le_refl _, ?_, HO3.putMap (.inl rfl) _⟩
       rw [← struckL_struck HE.out.keys HE.out.born hyl hb]
       exact HM3.put _ _
      case measure =>
       rw [iterLeft_eq HI.out HMr.out, iterLeft_eq (HI3.only (Only.refl (fun k => k = r) _ |>.putMap (.inl rfl) _) (fun e => hne e.symm)) (HM3.put _ _)]
       refine Nat.lt_of_le_of_lt ?_ (leftL_push_lt hy)
       unfold struckL
       rw [adel_filter (HE.out.keys.sublist ((List.filter_sublist).map _))]
       exact leftL_filter_le _ _ _
end
end
section
open Go.RowKit
attribute [local go_sem] MapAt_setCell MapAt.alloc MapAt_drew cell?_putMap MapAt_putMap size_putMap
section
variable {w : World} {b : Nat} {D : Dsk} {F : Foot}
theorem assoc_filter {κ β : Type} [DecidableEq κ] (p : κ → Bool) (k : κ) : ∀ (l : List (κ × β × Nat)), assoc k (l.filter fun x => p x.1) = if p k then assoc k l else none
 | [] => by simp [assoc]
 | x :: l => by
  rw [List.filter_cons]
  by_cases hk : k = x.1
  · subst hk
    by_cases hp : p x.1 = true
    · simp [hp, assoc]
    · simp only [hp, Bool.false_eq_true, if_false]
      rw [assoc_filter p x.1 l]
      simp [hp]
  · by_cases hp : p x.1 = true
    · simp only [hp, if_true, assoc, hk, if_false]
      exact assoc_filter p k l
    · simp only [hp, Bool.false_eq_true, if_false, assoc, hk]
      exact assoc_filter p k l
theorem Entries.filter_ {κ β : Type} {l : List (κ × β × Nat)} {c : Nat} (h : Entries l c) (p : κ × β × Nat → Bool) : Entries (l.filter p) c :=
 ⟨h.keys.sublist ((List.filter_sublist).map _), h.born.sublist ((List.filter_sublist).map _), fun y hy => h.lt y (List.mem_filter.1 hy).1⟩
theorem settle_fin {W W3 W5 : World} {x : DWit} (h : IsDiskW W b D x) (f : Int) {A : Option Addr} {c : Nat} (o3 : Only (fun k => x.q.ownBlock = some k) W W3)
 (hown : W3.ownsRow 0 84 2 (.slice A (D.queue.filter (keepP f)).length c) (D.queue.filter (keepP f)).length (secCells (D.queue.filter (keepP f))))
 (hat : (Value.slice A (D.queue.filter (keepP f)).length c).ownBlock = x.q.ownBlock) (hms : MapAt keyS valB W5 x.ms (x.sl.filter fun y => keepP f y.1) x.sc)
 (o5 : Only (fun k => k = x.ms) (W3.setCell ⟨b, 1, none⟩ (.slice A (D.queue.filter (keepP f)).length c)) W5) (ok : ({ D with queue := D.queue.filter (keepP f) } : Dsk).Ok) :
 IsDiskW W5 b { D with queue := D.queue.filter (keepP f) } { x with q := .slice A (D.queue.filter (keepP f)).length c, sl := x.sl.filter fun y => keepP f y.1 } := by
 obtain ⟨a1, a2, a3, a4, a5⟩ := h.apart
 have hb3 := h.blk.only o3 fun e => (a4 b e).1 rfl
 have hf3 := h.fm.only o3 fun e => (a4 _ e).2.1 rfl
 have hk3 := own_only h.kpo o3 fun k hk hq' => (a5 k hk).2.2.2 hq'
 have o4 : ∀ u, Only (oneF b) W3 (W3.setCell ⟨b, 1, none⟩ u) := fun u => (Only.refl (oneF b) W3).setCell (p := ⟨b, 1, none⟩) (.inl rfl) u
 exact {
  blk := (hb3.set_ 1 _).only o5 (Ne.symm a2)
  fm := (hf3.only (o4 _) a1).only o5 a3
  sm := hms
  ne := h.ne
  own := own_only (own_only hown (o4 _) fun k hk hh => (a4 k (by rw [← hat]; exact hk)).1 hh) o5 fun k hk hh => (a4 k (by rw [← hat]; exact hk)).2.2 hh
  kpo := own_only (own_only hk3 (o4 _) fun k hk hh => (a5 k hk).1 hh) o5 fun k hk hh => (a5 k hk).2.2.1 hh
  abs := h.abs
  fent := h.fent
  sent := h.sent.filter_ _
  fkey := h.fkey
  sset := fun p => by
   rw [assoc_filter (keepP f) p x.sl, h.sset]
   by_cases hp : keepP f p = true
   · simp [hp, List.mem_filter]
   · simp [hp, List.mem_filter]
  ok := ok }
theorem dsettle_c (h : IsDisk w b D F) (f : Int) (s : Str) (h0 : 0 ≤ f) (h1 : f < 16) (hs : s.length ≤ 16777216) :
 Calls Tryz.prog 80 #[.pointer (some ⟨b, 0, none⟩), .int .i64 f, strV s] w fun e w' => e = .returned (.tuple #[]) ∧ DiskTo w b F (D.settle f s) w' := by
 obtain ⟨x, h, hF⟩ := h
 have H := Lib.hid h
 have HF := Lib.hid hF
 obtain ⟨d0, d1, d2, _, _, _, _⟩ := h.cells
 have hnb : ¬ w.heap.size = b := by have := h.blk.lt; omega
 have hbl := h.blk.lt
 have hm1 := h.fm
 have hup := fun W hW => run_mapUpdate_assoc (P := Tryz.prog) (w := W) keyEqI Tryz.underlying54 hW f (s, s) (ve := valF) (l := x.fl) (r := x.mf) (clock := x.fc)
 clear h hF
 go_enter Tryz.func80, Tryz.ntmps80
 go_wp2
 go_region
 have HD := Lib.hid ((H.out.only (((Only.refl NoF w).alloc (.cells #[.int .i64 f] 3)).drew) fun _ _ h => h).putFile h0 h1 (y := (s, s)) ⟨hs, hs⟩)
 have HO := Lib.hid ((((Only.refl F.m w).alloc (.cells #[.int .i64 f] 3)).drew).putMap (r := x.mf) (.inl (by rw [HF.out]; exact .inr (.inl rfl))) (.map ((aput f (s, s) x.fc x.fl).map (entOf keyI valF)).toArray (if (assoc f x.fl).isSome then x.fc else x.fc + 1)))
 have hmfl := heap_lt H.out.fm
 have HG := Lib.hid (((Blk.new w 3 #[.int .i64 f]).drew).putMap (r := x.mf) (by omega) (.map ((aput f (s, s) x.fc x.fl).map (entOf keyI valF)).toArray (if (assoc f x.fl).isSome then x.fc else x.fc + 1)))
 clear hup d0 d1 d2 hm1
 generalize World.putMap _ x.mf _ = W2 at HD HO HG ⊢
 obtain ⟨_, d1, d2, _, _, _, _⟩ := HD.out.cells
 have hgc := HG.out.cell 0
 have hql := H.out.ok.qlen
 have hqf : x.q.ownBlock ≠ some w.heap.size := fun e => by
  have := own_lt H.out.own _ e
  omega
 have hdel := delFSec_c W2 x.q D.queue HD.out.own f w.heap.size hgc (by omega) hqf
 have hne1 : ¬ b = w.heap.size := by omega
 go_wp2_with (first
  | (go_at_call 109; (refine hdel.mono ?_; rintro e w3 ⟨A, c, rfl, hown, hat, o3⟩; have B3 := Lib.hid (HD.out.blk.only o3 fun e => (HD.out.apart.2.2.2.1 b e).1 rfl); have S3 := HD.out.sm.only o3 fun e => (HD.out.apart.2.2.2.1 _ e).2.2 rfl; have e1 := B3.out.cell 1; have e2 := B3.out.cell 2; have z1 := B3.out.frozen 1; have G3 := (o3.cell (p := ⟨w.heap.size, 0, none⟩) (World.block_lt_of_cell? _ _ hgc) (fun e => hqf e)).trans hgc; have hmd := fun u => mdelFSec_c (w3.setCell ⟨b, 1, none⟩ u) x.ms x.sc x.sl ((MapAt_setCell _ _).2 S3) HD.out.sent f w.heap.size ((World.cell?_setCell_other _ _ _ _ (fun e => hne1 (Addr.mk.inj e).1)).trans G3); have O3 := Lib.hid o3; have HW := Lib.hid (And.intro hown hat); clear o3 hown hat S3))
  | (go_at_call 111; refine (hmd _).mono ?_; rintro e w5 ⟨rfl, hms, o5⟩))
 go_end0
 refine ⟨rfl, ?_⟩
 have hfin := settle_fin HD.out f O3.out HW.out.1 HW.out.2 hms o5 (H.out.ok.settle h0 h1 hs)
 have hat := HW.out.2
 refine hfin.to (x := x) ?_ HF.out ?_
 · refine HO.out.trans' (((O3.out.mono ?_).setCell (p := ⟨b, 1, none⟩) (.inl ?_) _).trans' (o5.mono ?_))
   · intro k hk; rw [HF.out]; exact .inr (.inr (.inr (.inl hk)))
   · rw [HF.out]; exact .inl rfl
   · rintro k rfl; rw [HF.out]; exact .inr (.inr (.inl rfl))
 · rintro k (hk | hk | hk | hk | hk)
   · exact .inl (.inl hk)
   · exact .inl (.inr (.inl hk))
   · exact .inl (.inr (.inr (.inl hk)))
   · exact .inl (.inr (.inr (.inr (.inl (by rw [← hat]; exact hk)))))
   · exact .inl (.inr (.inr (.inr (.inr hk))))
end
end
section
theorem bits_low (x : Int) (i : Nat) (hi : i ≤ 62) : bits .and .i64 x (2 ^ i - 1) = x % 2 ^ i := by
 have hpos : 0 < 2 ^ i := Nat.two_pow_pos i
 have hle : 2 ^ i ≤ 2 ^ 62 := Nat.pow_le_pow_right (by decide) hi
 have hc : ((2 : Int) ^ i - 1) = ((2 ^ i - 1 : Nat) : Int) := by
  rw [Int.natCast_sub hpos]; simp
 have hd : ((2 : Int) ^ i) ∣ 2 ^ 64 := ⟨2 ^ (64 - i), by rw [← Int.pow_add]; congr 1; omega⟩
 rw [hc]
 simp only [bits, BitVec.toNat_and, BitVec.ofInt_natCast, BitVec.toNat_ofNat, BitVec.toNat_ofInt]
 rw [show IntKind.i64.bits = 64 from rfl]
 have hm : (2 ^ i - 1) % 2 ^ 64 = 2 ^ i - 1 := Nat.mod_eq_of_lt (by omega)
 rw [hm, Nat.and_two_pow_sub_one_eq_mod]
 have h0 : 0 ≤ x % ((2 ^ 64 : Nat) : Int) := Int.emod_nonneg _ (by decide)
 have e : (((x % ((2 ^ 64 : Nat) : Int)).toNat % 2 ^ i : Nat) : Int) = x % 2 ^ i := by
  rw [Int.natCast_emod, Int.toNat_of_nonneg h0]
  have : (((2 : Nat) ^ i : Nat) : Int) = 2 ^ i := by simp
  rw [this]
  exact Int.emod_emod_of_dvd _ hd
 rw [e]
 have h1 : 0 ≤ x % 2 ^ i := Int.emod_nonneg _ (by have : (0 : Int) < 2 ^ i := by exact_mod_cast hpos
                                                  omega)
 have h2 : x % 2 ^ i < 2 ^ i := Int.emod_lt_of_pos _ (by exact_mod_cast hpos)
 have hle2 : 2 ^ i ≤ 4611686018427387904 := hle
 have h4 : ((2 : Int) ^ i) = ((2 ^ i : Nat) : Int) := by simp
 have h3 : (2 : Int) ^ i ≤ 4611686018427387904 := by rw [h4]; omega
 rw [IntKind.wrap_i64]
 omega
theorem bits_1 (x : Int) : bits .and .i64 x 1 = x % 2 := bits_low x 1 (by decide)
end
section
open Go.RowKit
attribute [local go_sem] MapAt_setCell MapAt.alloc MapAt_drew cell?_putMap MapAt_putMap size_putMap
section
variable {w : World} {b : Nat} {D : Dsk} {F : Foot}
theorem crashF_append (keep : List Int) (p : Int × Int) : ∀ (a : List (Int × Int)) (n : Nat) (g : Int → Str × Str), Dsk.crashF keep n (a ++ [p]) g = if Dsk.survives keep (n + a.length) then Dsk.survive (Dsk.crashF keep n a g) p else Dsk.crashF keep n a g
 | [], n, g => by simp [Dsk.crashF]
 | x :: a, n, g => by
  simp only [List.cons_append, Dsk.crashF, crashF_append keep p a (n + 1), List.length_cons]
  rw [show n + 1 + a.length = n + (a.length + 1) by omega]
/-- the disk after i sectors of a crash -/
def Dsk.crashing (D : Dsk) (keep : List Int) (i : Nat) : Dsk := { D with file := Dsk.crashF keep 0 (D.queue.take i) D.file, down := true, armed := 0 }
theorem Dsk.crashing_succ (D : Dsk) (keep : List Int) (i : Nat) (hi : i < D.queue.length) : D.crashing keep (i + 1) = { D.crashing keep i with file := if Dsk.survives keep i then Dsk.survive (D.crashing keep i).file D.queue[i] else (D.crashing keep i).file } := by
 unfold Dsk.crashing
 rw [take_succ_getD _ i hi, crashF_append]
 simp [Nat.min_eq_left (Nat.le_of_lt hi)]
theorem Dsk.Ok.crashing {D : Dsk} (h : D.Ok) (keep : List Int) (i : Nat) : (D.crashing keep i).Ok := by
 have := crashF_ok keep (D.queue.take i) 0 D.file h.lens h.out
 exact { h with lens := fun f => this.1 f, out := fun f hf => this.2 f hf, armed := by simp [Dsk.crashing] }
theorem Dsk.crashing_none (D : Dsk) (keep : List Int) (i : Nat) (hi : i < D.queue.length) (h : Dsk.survives keep i = false ∨ ((D.crashing keep i).file D.queue[i].1).1.length ≤ (D.queue[i].2 * 64).toNat) : D.crashing keep (i + 1) = D.crashing keep i := by
 rw [D.crashing_succ keep i hi]
 rcases h with h | h
 · simp [h]
 · have : Dsk.survive (D.crashing keep i).file D.queue[i] = (D.crashing keep i).file := by
    unfold Dsk.survive
    rw [if_neg (by omega)]
   simp [this]
theorem Dsk.crashing_some (D : Dsk) (keep : List Int) (i : Nat) (hi : i < D.queue.length) (h : Dsk.survives keep i = true) (h2 : (D.queue[i].2 * 64).toNat < ((D.crashing keep i).file D.queue[i].1).1.length) :
 D.crashing keep (i + 1) = { D.crashing keep i with file := Dsk.setFile (D.crashing keep i).file D.queue[i].1 (((D.crashing keep i).file D.queue[i].1).1, put ((D.crashing keep i).file D.queue[i].1).2 (D.queue[i].2 * 64).toNat ((((D.crashing keep i).file D.queue[i].1).1.drop (D.queue[i].2 * 64).toNat).take 64)) } := by
 rw [D.crashing_succ keep i hi, h, if_pos rfl]
 unfold Dsk.survive
 rw [if_pos h2]
theorem Reads.own {base : Nat} {e : TypeId} {size n c : Nat} {A : Option Addr} {xs : List Value} (h : w.ownsRow base e size (.slice A n c) n xs) : Reads w (fun k => (Value.slice A n c).ownBlock = some k) size A n xs := by
 obtain ⟨A', c', e, _, _, h⟩ := Reads.of_own h
 obtain ⟨rfl, rfl⟩ : A = A' ∧ c = c' := by simpa using e
 exact h
theorem IsDiskW.lookF {x : DWit} (h : IsDiskW w b D x) (f : Int) (W : World) (hW : MapAt keyI valF W x.mf x.fl x.fc) :
 (Instr.lookup 54 (.map (some x.mf)) (.int .i64 f) false).run Tryz.prog W = .ok (.agg #[strV (D.file f).1, strV (D.file f).2]) W := by
 have := run_lookup_assoc keyEqI Tryz.underlying54 (zeroFile W) hW f
 rw [this]
 have e := h.abs f
 cases ha : assoc f x.fl with
 | none => rw [ha] at e; simp at e; simp [← e]
 | some v => rw [ha] at e; simp at e; simp [← e]
/-- the files whose entries have come are what is durable -/
def lastL (l : List (Int × (Str × Str) × Nat)) (seen : Array Nat) : List (Int × (Str × Str) × Nat) := l.map fun x => if seen.contains x.2.2 then (x.1, (x.2.1.2, x.2.1.2), x.2.2) else x
theorem lastL_start (l : List (Int × (Str × Str) × Nat)) : lastL l #[] = l := by simp [lastL]
theorem lastL_keys (l : List (Int × (Str × Str) × Nat)) (seen : Array Nat) : (lastL l seen).map (·.1) = l.map (·.1) := by
 simp only [lastL, List.map_map]
 apply List.map_congr_left
 intro x _
 simp only [Function.comp]
 split <;> rfl
theorem lastL_born (l : List (Int × (Str × Str) × Nat)) (seen : Array Nat) : (lastL l seen).map (·.2.2) = l.map (·.2.2) := by
 simp only [lastL, List.map_map]
 apply List.map_congr_left
 intro x _
 simp only [Function.comp]
 split <;> rfl
theorem lastL_mem {l : List (Int × (Str × Str) × Nat)} {seen : Array Nat} {y : Int × (Str × Str) × Nat} (h : y ∈ leftL (lastL l seen) seen) : y ∈ l ∧ seen.contains y.2.2 = false := by
 obtain ⟨h1, h2⟩ := List.mem_filter.1 h
 obtain ⟨x, hx, rfl⟩ := List.mem_map.1 h1
 split at h2
 · simp_all
 · rename_i hc
   rw [if_neg hc]
   exact ⟨hx, by simpa using hc⟩
theorem aput_mem {κ β : Type} [DecidableEq κ] {k : κ} {v : β} {c : Nat} : ∀ {l : List (κ × β × Nat)}, (l.map (·.1)).Nodup → (assoc k l).isSome → aput k v c l = l.map fun x => if k = x.1 then (x.1, v, x.2.2) else x
 | [], _, h => by simp [assoc] at h
 | x :: l, hn, h => by
  rw [List.map_cons, List.nodup_cons] at hn
  by_cases hk : k = x.1
  · simp only [aput, hk, if_true, List.map_cons]
    congr 1
    symm
    have : l.map (fun y => if x.1 = y.1 then (y.1, v, y.2.2) else y) = l.map id := by
     apply List.map_congr_left
     intro y hy
     rw [if_neg]
     · rfl
     · intro e
       exact hn.1 (List.mem_map.2 ⟨y, hy, e.symm⟩)
    rw [this, List.map_id]
  · simp only [aput, hk, if_false, List.map_cons]
    congr 1
    refine aput_mem hn.2 ?_
    simpa [assoc, hk] using h
theorem assoc_of_mem {κ β : Type} [DecidableEq κ] : ∀ {l : List (κ × β × Nat)} {y : κ × β × Nat}, y ∈ l → (assoc y.1 l).isSome
 | x :: l, y, h => by
  unfold assoc
  split
  · rfl
  · rename_i hne
    rcases List.mem_cons.1 h with rfl | h
    · exact absurd rfl hne
    · exact assoc_of_mem h
theorem lastL_push {l : List (Int × (Str × Str) × Nat)} {c : Nat} {seen : Array Nat} {y : Int × (Str × Str) × Nat} (hE : Entries l c) (hy : y ∈ l) (hs : seen.contains y.2.2 = false) :
 aput y.1 (y.2.1.2, y.2.1.2) c (lastL l seen) = lastL l (seen.push y.2.2) ∧ (assoc y.1 (lastL l seen)).isSome = true := by
 have hm : (assoc y.1 (lastL l seen)).isSome = true := by
  have : y ∈ lastL l seen := List.mem_map.2 ⟨y, hy, by rw [hs]; rfl⟩
  exact assoc_of_mem this
 refine ⟨?_, hm⟩
 rw [aput_mem (by rw [lastL_keys]; exact hE.keys) hm]
 simp only [lastL, List.map_map]
 apply List.map_congr_left
 intro x hx
 simp only [Function.comp, Array.contains_push]
 by_cases he : x = y
 · subst he
   rw [hs]
   simp
 · have h1 : ¬ y.1 = x.1 := fun e => he (eq_of_nodup_map _ l hE.keys x hx y hy e.symm)
   have h2 : (x.2.2 == y.2.2) = false := by
    have : ¬ x.2.2 = y.2.2 := fun e => he (eq_of_nodup_map _ l hE.born x hx y hy e)
    simp [this]
   have h3 : (if seen.contains x.2.2 = true then (x.1, (x.2.1.2, x.2.1.2), x.2.2) else x).1 = x.1 := by split <;> rfl
   rw [h3, if_neg h1, h2, Bool.or_false]
theorem lastL_end {l : List (Int × (Str × Str) × Nat)} {seen : Array Nat} (h : leftL (lastL l seen) seen = []) : lastL l seen = l.map fun x => (x.1, (x.2.1.2, x.2.1.2), x.2.2) := by
 unfold lastL
 apply List.map_congr_left
 intro x hx
 cases hs : seen.contains x.2.2 with
 | true => simp
 | false =>
  exfalso
  have : x ∈ leftL (lastL l seen) seen := by
   unfold leftL
   rw [List.mem_filter]
   refine ⟨List.mem_map.2 ⟨x, hx, by rw [hs]; rfl⟩, by rw [hs]; rfl⟩
  rw [h] at this
  cases this
theorem assoc_map {κ β γ : Type} [DecidableEq κ] (g : β → γ) (k : κ) : ∀ (l : List (κ × β × Nat)), assoc k (l.map fun x => (x.1, g x.2.1, x.2.2)) = (assoc k l).map g
 | [] => rfl
 | x :: l => by
  simp only [List.map_cons, assoc]
  split
  · rfl
  · exact assoc_map g k l
/-- behind the loops: the queue and the set anew -/
theorem crash_fin {x : DWit} {W W5 : World} {D : Dsk} {seen : Array Nat} (h : IsDiskW W b D x) (ok : ({ D with file := fun f => ((D.file f).2, (D.file f).2), queue := [] } : Dsk).Ok) (hl : leftL (lastL x.fl seen) seen = []) (hm : MapAt keyI valF W5 x.mf (lastL x.fl seen) x.fc) (o5 : Only (fun k => k = x.mf) W W5) :
 IsDiskW (((W5.setCell ⟨b, 1, none⟩ (.slice none 0 0)).setCell ⟨b, 2, none⟩ (.map (some W5.heap.size))).alloc (.map #[] 0)) b { D with file := fun f => ((D.file f).2, (D.file f).2), queue := [] }
  { x with q := .slice none 0 0, ms := W5.heap.size, fl := lastL x.fl seen, sl := [], sc := 0 } := by
 obtain ⟨a1, a2, a3, a4, a5⟩ := h.apart
 have hb5 := h.blk.only o5 (Ne.symm a1)
 have hk5 := own_only h.kpo o5 fun k hk e => (a5 k hk).2.1 e
 have hbl := hb5.lt
 have hml := heap_lt hm
 have o6 : ∀ u v o, Only (oneF b) W5 (((W5.setCell ⟨b, 1, none⟩ u).setCell ⟨b, 2, none⟩ v).alloc o) := fun u v o => (((Only.refl (oneF b) _).setCell (p := ⟨b, 1, none⟩) (.inl rfl) u).setCell (p := ⟨b, 2, none⟩) (.inl rfl) v).alloc o
 exact {
  blk := ((hb5.set_ 1 _).set_ 2 _).alloc _
  fm := hm.only (o6 _ _ _) a1
  sm := at_new _ (.map #[] 0) _ (by simp [World.setCell])
  ne := by simp only; omega
  own := World.ownsRow_nil _ _ _ _
  kpo := own_only hk5 (o6 _ _ _) fun k hk e => (a5 k hk).1 e
  abs := fun f => by
   simp only
   rw [lastL_end hl, assoc_map (fun v : Str × Str => (v.2, v.2)) f x.fl]
   have := h.abs f
   cases ha : assoc f x.fl with
   | none => rw [ha] at this; simp at this; simp [← this]
   | some v => rw [ha] at this; simp at this; simp [← this]
  fent := by
   have h1 := lastL_keys x.fl seen
   have h2 := lastL_born x.fl seen
   exact ⟨by rw [h1]; exact h.fent.keys, by rw [h2]; exact h.fent.born, fun y hy => by
    obtain ⟨z, hz, rfl⟩ := List.mem_map.1 hy
    have := h.fent.lt z hz
    split <;> exact this⟩
  sent := ⟨by simp, by simp, by simp⟩
  fkey := fun y hy => by
   obtain ⟨z, hz, rfl⟩ := List.mem_map.1 hy
   have := h.fkey z hz
   split <;> exact this
  sset := by simp [assoc]
  ok := ok }
end
end
section
open Go.RowKit
attribute [local go_sem] MapAt_setCell MapAt.alloc MapAt_drew cell?_putMap MapAt_putMap size_putMap
section
variable {w : World} {b : Nat} {D : Dsk} {F : Foot}
theorem dCrash_up {x : DWit} (h : IsDiskW w b D x) (hd : D.down = false) (keep : List Int) (A : Option Addr) (ck : Nat) (S : Nat → Prop) (hk : Reads w S 1 A keep.length (keep.map (Value.int .i64))) (hkl : keep.length ≤ 1000000)
 (hS : ∀ k, S k → k ≠ b ∧ k ≠ x.mf ∧ k ≠ x.ms) :
 Calls Tryz.prog 14 #[.pointer (some ⟨b, 0, none⟩), .slice A keep.length ck] w fun e w' => e = .returned (.tuple #[]) ∧ DiskTo w b (x.foot b) (D.crash keep) w' := by
 have H := Lib.hid h
 have HK := Lib.hid hk
 obtain ⟨d0, d1, d2, d3, d4, d5, d6⟩ := h.cells
 rw [hd] at d4
 have z4 := h.blk.frozen 4
 have z5 := h.blk.frozen 5
 obtain ⟨Aq, cq, eq_, hcq, hcm, _⟩ := Reads.of_own h.own
 rw [eq_] at d1
 have hql := h.ok.qlen
 have hbl := h.blk.lt
 have HS := Lib.hid hS
 clear hS h hk
 go_enter Tryz.func14, Tryz.ntmps14
 go_wp2
 have HD0 : IsDiskW ((w.setCell ⟨b, 4, none⟩ (.bool true)).setCell ⟨b, 5, none⟩ (.int .i64 0)) b (D.crashing keep 0) { x with fl := x.fl, fc := x.fc } :=
  (H.out.store (D' := { D with down := true }) 4 (.bool true) rfl rfl rfl rfl { H.out.ok with }).store (D' := D.crashing keep 0) 5 (.int .i64 0) rfl rfl rfl rfl (H.out.ok.crashing keep 0)
 have HD0' := Lib.hid HD0
 clear HD0 d0 d1 d2 d3 d4 d5 d6 z4 z5
 go_loopw [25] (fun v wr => ∃ (i : Nat) (fl : List (Int × (Str × Str) × Nat)) (fc : Nat), i ≤ D.queue.length ∧ v = .int .i64 (i : Int) ∧ IsDiskW wr b (D.crashing keep i) { x with fl := fl, fc := fc } ∧ Only (fun k => k = b ∨ k = x.mf) w wr) (fun v _ => D.queue.length - (intOf v).toNat)
 case atStart => exact ⟨0, x.fl, x.fc, by omega, by go_num, HD0'.out, ((Only.refl _ w).setCell (.inl (.inl rfl)) _).setCell (.inl (.inl rfl)) _⟩
 case round =>
  obtain ⟨i, fl, fc, hi, rfl, hD, hO⟩ := hrel
  have HD := Lib.hid hD
  have HO := Lib.hid hO
  clear hD hO
  by_cases hlt : i < D.queue.length
  · have hrq := Reads.own (by rw [← eq_]; exact HD.out.own : wr.ownsRow 0 84 2 (.slice Aq D.queue.length cq) D.queue.length (secCells D.queue))
    obtain ⟨bq, oq, rfl, _, hbq, hcq2⟩ := hrq.form (by omega) (by decide)
    obtain ⟨c1, c2⟩ := secCells_get D.queue i hlt
    have e1 := hcq2 _ _ c1
    have e2 : wr.cell? ⟨bq, oq + i * 2 + 1, none⟩ = _ := hcq2 _ _ c2
    obtain ⟨d0, _, _, _, _, _, _⟩ := HD.out.cells
    have hm0 := HD.out.fm
    have hlk := HD.out.lookF D.queue[i].1
    have hqi := (HD.out.ok.q D.queue[i] (List.getElem_mem hlt))
    go_wp2_with fail
    have HD4 := Lib.hid (HD.out.only ((Only.refl NoF wr).alloc (.cells #[.int .i64 D.queue[i].1, .int .i64 D.queue[i].2] 84)) fun _ _ h => h)
    have HP := Lib.hid (Blk.new wr 84 #[.int .i64 D.queue[i].1, .int .i64 D.queue[i].2])
    have HO4 := Lib.hid (HO.out.alloc (.cells #[.int .i64 D.queue[i].1, .int .i64 D.queue[i].2] 84))
    clear hm0 d0 e1 e2 c1 c2 hbq hcq2 hrq
    generalize (wr.alloc (.cells #[.int .i64 D.queue[i].1, .int .i64 D.queue[i].2] 84)) = W4 at HD4 HP HO4 ⊢
    obtain ⟨d0, _, _, _, _, _, _⟩ := HD4.out.cells
    have hm0 := HD4.out.fm
    have p0 := HP.out.cell 0
    have p1 := HP.out.cell 1
    have hp4 := HP.out.lt
    have hb4 := HD4.out.blk.lt
    have HFT := Lib.hid HD4.out.foot_lt
    have hsz := HO4.out.size
    have hne1 : ¬ b = W4.heap.size := by omega
    have hne2 : ¬ wr.heap.size = W4.heap.size := by omega
    go_region
    have HD5 := Lib.hid (HD4.out.only (((Only.refl NoF W4).alloc (.cells #[strV ((D.crashing keep i).file D.queue[i].1).1, strV ((D.crashing keep i).file D.queue[i].1).2] 86)).drew) fun _ _ h => h)
    have HP5 := Lib.hid ((HP.out.alloc (.cells #[strV ((D.crashing keep i).file D.queue[i].1).1, strV ((D.crashing keep i).file D.queue[i].1).2] 86)).drew)
    have HF5 := Lib.hid ((Blk.new W4 86 #[strV ((D.crashing keep i).file D.queue[i].1).1, strV ((D.crashing keep i).file D.queue[i].1).2]).drew)
    have HO5 := Lib.hid ((HO4.out.alloc (.cells #[strV ((D.crashing keep i).file D.queue[i].1).1, strV ((D.crashing keep i).file D.queue[i].1).2] 86)).drew)
    clear hm0 d0 p0 p1 HD4 HO4 HP hlk
    generalize (W4.alloc _).drew = W5 at HD5 HP5 HF5 HO5 ⊢
    have hgf := HD5.out.ok.lens D.queue[i].1
    have hlk := HD5.out.lookF D.queue[i].1
    generalize hgg : (D.crashing keep i).file D.queue[i].1 = g at hgf HF5 hlk ⊢
    have f0 := HF5.out.cell 0
    have f1 := HF5.out.cell 1
    by_cases hk0 : keep = []
    · have hkl0 : keep.length = 0 := by simp [hk0]
      go_wp2_with fail
      go_roundw
      case rel => exact ⟨i + 1, fl, fc, by omega, by go_num, by rw [Dsk.crashing_none D keep i hlt (.inl (by simp [Dsk.survives, hk0]))]; exact HD5.out, HO5.out⟩
      case measure => simp [intOf]; omega
    · have hkpos : 0 < keep.length := List.length_pos_iff.2 hk0
      have hr5 : Reads W5 S 1 A keep.length (keep.map (Value.int .i64)) := HK.out.only HO5.out fun k hk e => e.elim (HS.out k hk).1 (HS.out k hk).2.1
      obtain ⟨bk, ok, rfl, _, hbk, hck⟩ := hr5.form hkpos (by decide)
      have hj : i % keep.length < keep.length := Nat.mod_lt _ hkpos
      have ck0 := hck (i % keep.length) (.int .i64 keep[i % keep.length]) (by simp [hj])
      have hkne : ¬ keep.length = 0 := by omega
      have hbit := bits_1 keep[i % keep.length]
      have hsv : Dsk.survives keep i = decide (keep[i % keep.length] % 2 = 1) := by simp [Dsk.survives, hk0, hj]
      generalize hkv : keep[i % keep.length] = kv at ck0 hbit hsv
      clear hck hr5
      have hno : Dsk.survives keep i = false ∨ g.1.length ≤ (D.queue[i].2 * 64).toNat → D.crashing keep (i + 1) = D.crashing keep i := fun h => Dsk.crashing_none D keep i hlt (by rw [hgg]; exact h)
      have HN := Lib.hid hno
      clear hno
      by_cases hodd : kv % 2 = 1
      · rw [hodd] at hbit
        by_cases hat : (g.1.length : Int) ≤ D.queue[i].2 * 64
        · go_wp2_with fail
          go_roundw
          case rel => exact ⟨i + 1, fl, fc, by omega, by go_num, by rw [HN.out (.inr (by omega))]; exact HD5.out, HO5.out⟩
          case measure => simp [intOf]; omega
        · obtain ⟨n0, n1, n2, n3⟩ := hqi
          have at0 : 0 ≤ D.queue[i].2 * 64 := by omega
          have at1 : D.queue[i].2 * 64 ≤ 16777216 := by omega
          have hat' : D.queue[i].2 * 64 < (g.1.length : Int) := by omega
          have hwr : IntKind.i64.wrap (D.queue[i].2 * 64 + 64) = D.queue[i].2 * 64 + 64 := by rw [IntKind.wrap_i64]; omega
          obtain ⟨m, hm⟩ : ∃ m : Int, (if (g.1.length : Int) < D.queue[i].2 * 64 + 64 then (g.1.length : Int) else D.queue[i].2 * 64 + 64) = m := ⟨_, rfl⟩
          have hm0 : 0 ≤ m := by split at hm <;> omega
          have hm1 : m ≤ (g.1.length : Int) := by split at hm <;> omega
          have hm2 : D.queue[i].2 * 64 ≤ m := by split at hm <;> omega
          go_wp2_with fail
          refine wp_region_reads [0, 1, 2, 3, 4, 5, 6, 7, 8, 9, 10, 11, 12] [13, 14, 15] (fun k w' => k ≤ 1 → w'.cell? ⟨W4.heap.size, 0, none⟩ = some (strV g.1) ∧ w'.cell? ⟨W4.heap.size, 1, none⟩ = some (strV g.2)) (by kernel_rfl) (by kernel_rfl) (fun _ _ _ _ _ h => h) (fun _ => ⟨f0, f1⟩) ?_
          iterate 13
           refine wpReads_cons rfl ?_ (by rfl) (fun w' k hk hS => ?_) ?_
           rotate_left
           · obtain ⟨s0, s1⟩ := hS (by have := Nat.le_trans hk (Nat.le_of_ble_eq_true (m := 1) (by kernel_rfl)); omega)
             go_simp
             with_reducible rfl
           try go_simp
          refine wpReads_nil ?_
          refine wpTail_cons rfl rfl ?_
          have hsl : (g.1.drop (D.queue[i].2 * 64).toNat).take (m.toNat - (D.queue[i].2 * 64).toNat) = (g.1.drop (D.queue[i].2 * 64).toNat).take 64 := by
           split at hm
           · rw [List.take_of_length_le (by simp; omega), List.take_of_length_le (by simp; omega)]
           · rw [show m.toNat - (D.queue[i].2 * 64).toNat = 64 by omega]
          go_simp
          refine (dput_c _ g.2 ((g.1.drop (D.queue[i].2 * 64).toNat).take 64) (D.queue[i].2 * 64) at0 at1 hgf.2 (by simp; omega)).mono ?_
          rintro e w6 ⟨rfl, ho6⟩
          have hF6 := HF5.out.drew.only ho6 id
          have f60 := hF6.cell 0
          have f61 := hF6.cell 1
          have z61 := hF6.frozen 1
          refine ⟨⟨f60, f61⟩, ?_⟩
          clear f0 f1
          refine wpTail_run rfl rfl (by go_simp; exact ⟨rfl, rfl⟩) (fun h => absurd h (by decide)) ?_
          try go_simp
          refine wpTail_skip rfl rfl (by go_simp; with_reducible rfl) (fun h => absurd h (by decide)) ?_
          try go_simp
          refine wpTail_nil ?_
          have o7 : Only (oneF W4.heap.size) W5 (w6.setCell ⟨W4.heap.size, 1, none⟩ (strV (put g.2 (D.queue[i].2 * 64).toNat ((g.1.drop (D.queue[i].2 * 64).toNat).take 64)))) :=
           (((Only.refl (oneF W4.heap.size) W5).drew).trans ho6 fun _ h => h.elim).setCell (p := ⟨W4.heap.size, 1, none⟩) (.inl rfl) _
          have HD7 := Lib.hid (HD5.out.only o7 fun k hk e => by
           have := HFT.out k hk
           rw [e] at this
           omega)
          have HP7 := Lib.hid (HP5.out.only o7 hne2)
          have HF7 := Lib.hid (hF6.set_ 1 (strV (put g.2 (D.queue[i].2 * 64).toNat ((g.1.drop (D.queue[i].2 * 64).toNat).take 64))))
          have HO7 := Lib.hid (HO5.out.trans o7 fun k hk => .inr (by rw [hk]; exact hsz))
          clear o7 f60 f61 z61 hF6 ho6 hlk
          generalize w6.setCell ⟨W4.heap.size, 1, none⟩ _ = W7 at HD7 HP7 HF7 HO7 ⊢
          obtain ⟨d0, _, _, _, _, _, _⟩ := HD7.out.cells
          have p0 := HP7.out.cell 0
          have f0 := HF7.out.cell 0
          have f1 := HF7.out.cell 1
          have hm7 := HD7.out.fm
          have hup := fun W hW => run_mapUpdate_assoc (P := Tryz.prog) (w := W) keyEqI Tryz.underlying54 hW D.queue[i].1 (g.1, put g.2 (D.queue[i].2 * 64).toNat ((g.1.drop (D.queue[i].2 * 64).toNat).take 64)) (ve := valF) (l := fl) (r := x.mf) (clock := fc)
          go_wp2_with fail
          go_region
          have HD8 := Lib.hid ((HD7.out.only ((Only.refl NoF W7).drew) fun _ _ h => h).putFile n0 n1 (y := (g.1, put g.2 (D.queue[i].2 * 64).toNat ((g.1.drop (D.queue[i].2 * 64).toNat).take 64))) ⟨hgf.1, length_put_le _ _ _ _ hgf.2 fun _ => by simp; omega⟩)
          have HO8 := Lib.hid ((HO7.out.drew).putMap (r := x.mf) (.inl (.inr rfl)) (.map ((aput D.queue[i].1 (g.1, put g.2 (D.queue[i].2 * 64).toNat ((g.1.drop (D.queue[i].2 * 64).toNat).take 64)) fc fl).map (entOf keyI valF)).toArray (if (assoc D.queue[i].1 fl).isSome then fc else fc + 1)))
          clear hup hm7 d0 p0 f0 f1
          generalize World.putMap W7.drew x.mf _ = W8 at HD8 HO8 ⊢
          go_wp2_with fail
          go_roundw
          case rel => exact ⟨i + 1, _, _, by omega, by go_num, by rw [Dsk.crashing_some D keep i hlt (by rw [hsv]; simp [hodd]) (by rw [hgg]; omega), hgg]; exact HD8.out, HO8.out⟩
          case measure => simp [intOf]; omega
      · have hev : kv % 2 = 0 := by omega
        rw [hev] at hbit
        go_wp2_with fail
        go_roundw
        case rel => exact ⟨i + 1, fl, fc, by omega, by go_num, by rw [HN.out (.inl (by rw [hsv]; simp [hev]))]; exact HD5.out, HO5.out⟩
        case measure => simp [intOf]; omega
  · have hin : i = D.queue.length := by omega
    subst hin
    have hmr := HD.out.fm
    obtain ⟨d0, _, _, _, _, _, _⟩ := HD.out.cells
    have hrun := run_range_map (P := Tryz.prog) wr 54 3 86 x.mf (fl.map (entOf keyI valF)).toArray fc Tryz.underlying54 hmr
    have hbw := HD.out.blk.lt
    have hmw := heap_lt hmr
    have hnm : x.mf ≠ b := HD.out.apart.1
    go_wp2_with fail
    clear hrun
    rename World => wo
    go_loopw [89] (fun _ wr => ∃ (seen : Array Nat) (c0 : Nat), IterAt wr wo.heap.size x.mf fc seen c0 ∧ fc ≤ c0 ∧ MapAt keyI valF wr x.mf (lastL fl seen) fc ∧ Only (fun k => k = x.mf) wo wr) (fun _ wr => iterLeft wr wo.heap.size x.mf)
    case atStart => exact ⟨#[], fc, heap_alloc_new wo _, Nat.le_refl _, by rw [lastL_start]; exact hmr.alloc _, (Only.refl _ wo).alloc _⟩
    case round =>
     obtain ⟨seen, c0, hI, hc0, hM, hO2⟩ := hrel
     have hlt2 := heap_lt hI
     have HI := Lib.hid hI
     have HMr := Lib.hid hM
     have HO2 := Lib.hid hO2
     rcases next_assoc (P := Tryz.prog) 0 hI hM (fun y hy => by
      obtain ⟨z, hz, rfl⟩ := List.mem_map.1 hy
      have := HD.out.fent.lt z hz
      split <;> exact this) hc0 with ⟨hl, hn⟩ | ⟨y, hy, w1, hw1, hn⟩
     · clear hI hM
       have B2 := Lib.hid (HD.out.blk.only hO2 (Ne.symm hnm))
       have z1 := B2.out.frozen 1
       have z2 := B2.out.frozen 2
       have e1 := B2.out.cell 1
       have e2 := B2.out.cell 2
       have hb2 := B2.out.lt
       have hmm := @run_makeMap Tryz.prog
       have hcr : ({ D.crashing keep D.queue.length with file := fun f => (((D.crashing keep D.queue.length).file f).2, ((D.crashing keep D.queue.length).file f).2), queue := [] } : Dsk) = D.crash keep := by
        simp [Dsk.crash, Dsk.crashing, hd]
       have HF := Lib.hid (crash_fin HD.out (by rw [hcr]; exact H.out.ok.crash keep) hl HMr.out hO2)
       rw [hcr] at HF
       have hne3 : ¬ b = wr.heap.size := by omega
       clear hO2
       go_wp2_with fail
       go_end0
       have hsz := HO.out.size
       have hsz2 := HO2.out.size
       have oA : Only (x.foot b).m w wr := (HO.out.mono (by
        rintro k (rfl | rfl)
        · exact .inl rfl
        · exact .inr (.inl rfl))).trans' (HO2.out.mono (by
        rintro k rfl
        exact .inr (.inl rfl)))
       refine ⟨rfl, HF.out.to (x := x) (((oA.setCell (p := ⟨b, 1, none⟩) (.inl (.inl rfl)) _).setCell (p := ⟨b, 2, none⟩) (.inl (.inl rfl)) _).alloc _) rfl ?_⟩
       · rintro k (hk | hk | hk | hk | hk)
         · exact .inl (.inl hk)
         · exact .inl (.inr (.inl hk))
         · refine .inr ?_
           simp only at hk
           omega
         · simp [Value.ownBlock] at hk
         · exact .inl (.inr (.inr (.inr (.inr hk))))
     · obtain ⟨hyl, hys⟩ := lastL_mem hy
       have hyL : y ∈ lastL fl seen := (List.mem_filter.1 hy).1
       have h1 : w1.heap = wr.heap := by rcases hw1 with rfl | rfl <;> rfl
       have hO1 : Only (fun k => k = x.mf) wo w1 := by rcases hw1 with rfl | rfl; exact hO2; exact hO2.drew
       have hs1 : w1.heap.size = wr.heap.size := by rw [h1]
       have hM1 : MapAt keyI valF w1 x.mf (lastL fl seen) fc := by unfold MapAt; rw [h1]; exact hM
       have hne : x.mf ≠ wo.heap.size := by omega
       have HI2 := Lib.hid (IterAt.put (w := w1) (r := x.mf) (since := fc) (seen := seen.push y.2.2) (c0 := fc) (by omega : wo.heap.size < w1.heap.size))
       have HM2 := Lib.hid (hM1.putOther hne (.mapIter (some x.mf) fc (seen.push y.2.2) fc))
       have HO3 := Lib.hid (hO1.putMap (r := wo.heap.size) (.inr (Nat.le_refl _)) (.mapIter (some x.mf) fc (seen.push y.2.2) fc))
       have hs2 : (World.putMap w1 wo.heap.size (.mapIter (some x.mf) fc (seen.push y.2.2) fc)).heap.size = wr.heap.size := by simp [World.putMap, hs1]
       have hnb : ((lastL fl seen).map (·.2.2)).Nodup := by rw [lastL_born]; exact HD.out.fent.born
       generalize World.putMap w1 wo.heap.size (.mapIter (some x.mf) fc (seen.push y.2.2) fc) = W3 at hn HI2 HM2 HO3 hs2
       have hen := entry_assoc (P := Tryz.prog) HI2.out HM2.out hyL hnb
       clear hI hM hO2 hM1 hO1
       have B3 := Lib.hid (HD.out.blk.only HO3.out (Ne.symm hnm))
       have e0 := B3.out.cell 0
       have hb3 := B3.out.lt
       have hm3 := HM2.out
       have hne4 : ¬ b = W3.heap.size := by omega
       have hne5 : ¬ b = wr.heap.size := by omega
       have hup := fun W hW => run_mapUpdate_assoc (P := Tryz.prog) (w := W) keyEqI Tryz.underlying54 hW y.1 (y.2.1.2, y.2.1.2) (ve := valF) (l := lastL fl seen) (r := x.mf) (clock := fc)
       have HS2 := Lib.hid hs2
       clear hs2
       obtain ⟨hpu, hpu2⟩ := lastL_push HD.out.fent hyl hys
       go_wp2_with fail
       go_region
       go_wp2_with fail
       have o4 : Only (fun k => k = x.mf) W3 (World.putMap (W3.alloc (.cells #[strV y.2.1.1, strV y.2.1.2] 86)).drew x.mf (.map ((lastL fl (seen.push y.2.2)).map (entOf keyI valF)).toArray fc)) := (((Only.refl (fun k => k = x.mf) W3).alloc _).drew).putMap (.inl rfl) _
       have hI4 := HI2.out.only o4 (fun e => hne e.symm)
       have hM4 : MapAt keyI valF (World.putMap (W3.alloc (.cells #[strV y.2.1.1, strV y.2.1.2] 86)).drew x.mf (.map ((lastL fl (seen.push y.2.2)).map (entOf keyI valF)).toArray fc)) x.mf (lastL fl (seen.push y.2.2)) fc := MapAt_putMap (by have := heap_lt HM2.out; simp; omega)
       go_roundw
       case rel => exact ⟨seen.push y.2.2, fc, hI4, Nat.le_refl _, hM4, HO3.out.trans' o4⟩
       case measure =>
        rw [iterLeft_eq HI.out HMr.out, iterLeft_eq hI4 hM4, leftL_congr _ ((lastL_born fl (seen.push y.2.2)).trans (lastL_born fl seen).symm)]
        exact leftL_push_lt hy
end
end
section
open Go.RowKit
section
variable {w : World} {b : Nat} {D : Dsk} {F : Foot}
theorem dCrash_c {x : DWit} (h : IsDiskW w b D x) (keep : List Int) (A : Option Addr) (ck : Nat) (S : Nat → Prop) (hk : Reads w S 1 A keep.length (keep.map (Value.int .i64))) (hkl : keep.length ≤ 1000000)
 (hS : ∀ k, S k → k ≠ b ∧ k ≠ x.mf ∧ k ≠ x.ms) :
 Calls Tryz.prog 14 #[.pointer (some ⟨b, 0, none⟩), .slice A keep.length ck] w fun e w' => e = .returned (.tuple #[]) ∧ DiskTo w b (x.foot b) (D.crash keep) w' := by
 cases hd : D.down with
 | false => exact dCrash_up h hd keep A ck S hk hkl hS
 | true =>
  have Hp : D.crash keep = D := by simp [Dsk.crash, hd]
  rw [Hp]
  obtain ⟨d0, d1, d2, d3, d4, d5, d6⟩ := h.cells
  rw [hd] at d4
  have H := Lib.hid h
  clear h hk hS hd Hp d0 d1 d2 d3 d5 d6
  go_enter Tryz.func14, Tryz.ntmps14
  go_wp2
  refine bodyPost_ret (results_none rfl _ _ _) rfl ?_
  exact ⟨rfl, .same ⟨x, H.out, rfl⟩⟩
/-- a crash with what was laid by Arm -/
theorem dCrash_own {x : DWit} (h : IsDiskW w b D x) : Calls Tryz.prog 14 #[.pointer (some ⟨b, 0, none⟩), x.kp] w fun e w' => e = .returned (.tuple #[]) ∧ DiskTo w b (x.foot b) (D.crash D.keep) w' := by
 obtain ⟨A, c, e, _, _, hr⟩ := Reads.of_own h.kpo
 have a5 := h.apart.2.2.2.2
 have := dCrash_c h D.keep A c _ hr (by have := h.ok.keep; omega) fun k hk => ⟨(a5 k hk).1, (a5 k hk).2.1, (a5 k hk).2.2.1⟩
 rw [e]
 exact this
theorem dWrite_c (h : IsDisk w b D F) (f at_ : Int) (s : Str) (ha : I64 at_) (hl : s.length ≤ 1000000) :
 Calls Tryz.prog 71 #[.pointer (some ⟨b, 0, none⟩), .int .i64 f, .int .i64 at_, strV s] w fun e w' => e = .returned (.int .i64 (D.write f at_ s).2) ∧ DiskTo w b F (D.write f at_ s).1 w' := by
 have he := dends_c h
 have hbl : b < w.heap.size := h.lt b (by obtain ⟨x, _, rfl⟩ := h; exact .inl (.inl rfl))
 cases hen : D.ends with
 | false =>
  have Hp : D.write f at_ s = D.tick.write0 f at_ s := by simp [Dsk.write, hen]
  rw [Hp]
  rw [hen] at he
  clear Hp hen
  go_enter Tryz.func71, Tryz.ntmps71
  go_wp2_with (first
   | (go_at_call 78; refine he.mono ?_; rintro e w1 ⟨rfl, h1⟩; obtain ⟨F1, i1, o1, f1, r1⟩ := h1; have hw := dwrite_c i1 f at_ s ha hl; have Hi := Lib.hid (And.intro o1 (And.intro f1 r1)); clear o1 f1 r1 i1)
   | (go_at_call 104; refine hw.mono ?_; rintro e w2 ⟨rfl, h2⟩))
  go_ret
  exact ⟨rfl, DiskTo.trans Hi.out.1 Hi.out.2.1 Hi.out.2.2 h2⟩
 | true =>
  have Hp : D.write f at_ s = ((D.tick.write0 f at_ s).1.crash (D.tick.write0 f at_ s).1.keep, 8) := by simp [Dsk.write, hen]
  rw [Hp]
  rw [hen] at he
  clear Hp hen
  go_enter Tryz.func71, Tryz.ntmps71
  go_wp2_with (first
   | (go_at_call 78; refine he.mono ?_; rintro e w1 ⟨rfl, h1⟩; obtain ⟨F1, i1, o1, f1, r1⟩ := h1; have hw := dwrite_c i1 f at_ s ha hl; have Hi := Lib.hid (And.intro o1 (And.intro f1 r1)); clear o1 f1 r1 i1)
   | (go_at_call 104; refine hw.mono ?_; rintro e w2 ⟨rfl, h2⟩; obtain ⟨F2, ⟨x2, i2, hF2⟩, o2, f2, r2⟩ := h2; have c6 := i2.blk.cell 6; have hcr := dCrash_own i2; have Hj := Lib.hid (And.intro o2 (And.intro f2 r2)); have HF2 := Lib.hid hF2; clear o2 f2 r2 i2 hF2)
   | (go_at_call 14; refine hcr.mono ?_; rintro e w3 ⟨rfl, h3⟩))
  go_ret
  refine ⟨rfl, DiskTo.trans Hi.out.1 Hi.out.2.1 Hi.out.2.2 (DiskTo.trans Hj.out.1 Hj.out.2.1 Hj.out.2.2 ?_)⟩
  rw [HF2.out]
  exact h3
theorem tock_true {D : Dsk} (h : D.ends = true) : D.tock = D.tick.crash D.tick.keep := by
 have : D.tick.keep = D.keep := by unfold Dsk.tick; split <;> rfl
 rw [this]; simp [Dsk.tock, h]
theorem tock_false {D : Dsk} (h : D.ends = false) : D.tock = D.tick := by simp [Dsk.tock, h]
theorem dSync_false (h : IsDisk w b D F) (f : Int) (hen : D.ends = false) :
 Calls Tryz.prog 48 #[.pointer (some ⟨b, 0, none⟩), .int .i64 f] w fun e w' => e = .returned (.int .i64 (D.sync f).2) ∧ DiskTo w b F (D.sync f).1 w' := by
 have he := dends_c h
 rw [hen] at he
 have hT : D.tock = D.tick := tock_false hen
 unfold Dsk.sync
 rw [hT]
 have hbl : b < w.heap.size := h.lt b (by obtain ⟨x, _, rfl⟩ := h; exact .inl (.inl rfl))
 have hok : (D.tick).Ok := by rw [← hT]; exact h.ok.tock
 clear h hT hen
 generalize hTT : D.tick = T at *
 by_cases hmay : T.may f = 0
 · by_cases hlo : 0 < T.lost
   · have Hp := Lib.hid (show T.sync0 f = ({ T with lost := T.lost - 1 }, 9) from by simp [Dsk.sync0, hmay, hlo])
     have hl2 := hok.lost
     go_enter Tryz.func48, Tryz.ntmps48
     go_wp2_with (first
      | (go_at_call 78; refine he.mono ?_; rintro e w1 ⟨rfl, h1⟩; obtain ⟨F1, ⟨x1, i1, e1⟩, o1, f1, r1⟩ := h1; have hm := dmay_c ⟨x1, i1, rfl⟩ f; rw [hmay] at hm; obtain ⟨c0, _, _, c3, _, _, _⟩ := i1.cells; have hlk := i1.look f; have z3 := i1.blk.frozen 3; have hsz := dSize_c ⟨x1, i1, rfl⟩ f; have HI := Lib.hid (And.intro i1 (And.intro e1 (And.intro o1 (And.intro f1 r1)))); clear i1 e1 o1 f1 r1)
      | (go_at_call 14; refine hcr.mono ?_; rintro e w1 ⟨rfl, h1⟩; fail)
      | (go_at_call 79; refine hm.mono ?_; rintro e w' ⟨rfl, rfl⟩)
      | (go_at_call 50; refine hsz.mono ?_; rintro e w' ⟨rfl, rfl⟩)
      | (go_at_call 80; refine hst.mono ?_; rintro e w5 ⟨rfl, h5⟩))
     go_ret
     rw [Hp.out]
     exact ⟨rfl, DiskTo.trans HI.out.2.2.1 HI.out.2.2.2.1 HI.out.2.2.2.2 ((HI.out.1.store (D' := { T with lost := T.lost - 1 }) 3 (.int .i64 (T.lost - 1)) rfl rfl rfl rfl { hok with lost := ⟨by simp only; omega, by simp only; omega⟩ }).to ((Only.refl F1.m _).setCell (.inl (by rw [HI.out.2.1]; exact .inl rfl)) _) HI.out.2.1 fun k hk => .inl hk)⟩
   · have Hp := Lib.hid (show T.sync0 f = (T.settle f (T.file f).1, 0) from by simp [Dsk.sync0, hmay, hlo])
     have hmz := Dsk.may_zero hmay
     go_enter Tryz.func48, Tryz.ntmps48
     go_wp2_with (first
      | (go_at_call 78; refine he.mono ?_; rintro e w1 ⟨rfl, h1⟩; obtain ⟨F1, ⟨x1, i1, e1⟩, o1, f1, r1⟩ := h1; have hm := dmay_c ⟨x1, i1, rfl⟩ f; rw [hmay] at hm; obtain ⟨c0, _, _, c3, _, _, _⟩ := i1.cells; have hlk := i1.look f; have z3 := i1.blk.frozen 3; have hsz := dSize_c ⟨x1, i1, rfl⟩ f; have hst := dsettle_c ⟨x1, i1, rfl⟩ f (T.file f).1 hmz.2.1 hmz.2.2 (hok.lens f).1; have HI := Lib.hid (And.intro i1 (And.intro e1 (And.intro o1 (And.intro f1 r1)))); clear i1 e1 o1 f1 r1)
      | (go_at_call 14; refine hcr.mono ?_; rintro e w1 ⟨rfl, h1⟩; fail)
      | (go_at_call 79; refine hm.mono ?_; rintro e w' ⟨rfl, rfl⟩)
      | (go_at_call 50; refine hsz.mono ?_; rintro e w' ⟨rfl, rfl⟩)
      | (go_at_call 80; refine hst.mono ?_; rintro e w5 ⟨rfl, h5⟩))
     go_ret
     rw [Hp.out]
     exact ⟨rfl, DiskTo.trans HI.out.2.2.1 HI.out.2.2.2.1 HI.out.2.2.2.2 (by rw [HI.out.2.1]; exact h5)⟩
 · have Hp := Lib.hid (show T.sync0 f = (T, T.may f) from by simp [Dsk.sync0, hmay])
   have hmb : (T.may f != 0) = true := by simp [hmay]
   go_enter Tryz.func48, Tryz.ntmps48
   go_wp2_with (first
    | (go_at_call 78; refine he.mono ?_; rintro e w1 ⟨rfl, h1⟩; obtain ⟨F1, ⟨x1, i1, e1⟩, o1, f1, r1⟩ := h1; have hm := dmay_c ⟨x1, i1, rfl⟩ f; obtain ⟨c0, _, _, c3, _, _, _⟩ := i1.cells; have hlk := i1.look f; have z3 := i1.blk.frozen 3; have hsz := dSize_c ⟨x1, i1, rfl⟩ f; have HI := Lib.hid (And.intro i1 (And.intro e1 (And.intro o1 (And.intro f1 r1)))); clear i1 e1 o1 f1 r1)
    | (go_at_call 14; refine hcr.mono ?_; rintro e w1 ⟨rfl, h1⟩; fail)
    | (go_at_call 79; refine hm.mono ?_; rintro e w' ⟨rfl, rfl⟩)
    | (go_at_call 50; refine hsz.mono ?_; rintro e w' ⟨rfl, rfl⟩)
    | (go_at_call 80; refine hst.mono ?_; rintro e w5 ⟨rfl, h5⟩))
   go_ret
   rw [Hp.out]
   exact ⟨rfl, DiskTo.trans HI.out.2.2.1 HI.out.2.2.2.1 HI.out.2.2.2.2 (.same ⟨_, HI.out.1, HI.out.2.1⟩)⟩
theorem dTruncate_false (h : IsDisk w b D F) (f size : Int) (hen : D.ends = false) (hsi : I64 size) :
 Calls Tryz.prog 52 #[.pointer (some ⟨b, 0, none⟩), .int .i64 f, .int .i64 size] w fun e w' => e = .returned (.int .i64 (D.truncate f size).2) ∧ DiskTo w b F (D.truncate f size).1 w' := by
 have he := dends_c h
 rw [hen] at he
 have hT : D.tock = D.tick := tock_false hen
 unfold Dsk.truncate
 rw [hT]
 have hbl : b < w.heap.size := h.lt b (by obtain ⟨x, _, rfl⟩ := h; exact .inl (.inl rfl))
 have hok : (D.tick).Ok := by rw [← hT]; exact h.ok.tock
 clear h hT hen
 generalize hTT : D.tick = T at *
 by_cases hmay : T.may f = 0
 · by_cases hlo : size < 0 ∨ ((T.file f).1.length : Int) < size
   · have Hp := Lib.hid (show T.truncate0 f size = (T, 1) from by simp [Dsk.truncate0, hmay, hlo])
     by_cases hneg : size < 0
     · go_enter Tryz.func52, Tryz.ntmps52
       go_wp2_with (first
       | (go_at_call 78; refine he.mono ?_; rintro e w1 ⟨rfl, h1⟩; obtain ⟨F1, ⟨x1, i1, e1⟩, o1, f1, r1⟩ := h1; have hm := dmay_c ⟨x1, i1, rfl⟩ f; rw [hmay] at hm; obtain ⟨c0, _, _, c3, _, _, _⟩ := i1.cells; have hlk := i1.look f; have z3 := i1.blk.frozen 3; have hsz := dSize_c ⟨x1, i1, rfl⟩ f; have HI := Lib.hid (And.intro i1 (And.intro e1 (And.intro o1 (And.intro f1 r1)))); clear i1 e1 o1 f1 r1)
       | (go_at_call 14; refine hcr.mono ?_; rintro e w1 ⟨rfl, h1⟩; fail)
       | (go_at_call 79; refine hm.mono ?_; rintro e w' ⟨rfl, rfl⟩)
       | (go_at_call 50; refine hsz.mono ?_; rintro e w' ⟨rfl, rfl⟩)
       | (go_at_call 80; refine hst.mono ?_; rintro e w5 ⟨rfl, h5⟩))
       go_ret
       rw [Hp.out]
       exact ⟨rfl, DiskTo.trans HI.out.2.2.1 HI.out.2.2.2.1 HI.out.2.2.2.2 (.same ⟨_, HI.out.1, HI.out.2.1⟩)⟩
     · have hle : ((T.size f : Nat) : Int) < size := by unfold Dsk.size; omega
       go_enter Tryz.func52, Tryz.ntmps52
       go_wp2_with (first
       | (go_at_call 78; refine he.mono ?_; rintro e w1 ⟨rfl, h1⟩; obtain ⟨F1, ⟨x1, i1, e1⟩, o1, f1, r1⟩ := h1; have hm := dmay_c ⟨x1, i1, rfl⟩ f; rw [hmay] at hm; obtain ⟨c0, _, _, c3, _, _, _⟩ := i1.cells; have hlk := i1.look f; have z3 := i1.blk.frozen 3; have hsz := dSize_c ⟨x1, i1, rfl⟩ f; have HI := Lib.hid (And.intro i1 (And.intro e1 (And.intro o1 (And.intro f1 r1)))); clear i1 e1 o1 f1 r1)
       | (go_at_call 14; refine hcr.mono ?_; rintro e w1 ⟨rfl, h1⟩; fail)
       | (go_at_call 79; refine hm.mono ?_; rintro e w' ⟨rfl, rfl⟩)
       | (go_at_call 50; refine hsz.mono ?_; rintro e w' ⟨rfl, rfl⟩)
       | (go_at_call 80; refine hst.mono ?_; rintro e w5 ⟨rfl, h5⟩))
       go_ret
       rw [Hp.out]
       exact ⟨rfl, DiskTo.trans HI.out.2.2.1 HI.out.2.2.2.1 HI.out.2.2.2.2 (.same ⟨_, HI.out.1, HI.out.2.1⟩)⟩
   · have Hp := Lib.hid (show T.truncate0 f size = (T.settle f ((T.file f).1.take size.toNat), 0) from by simp [Dsk.truncate0, hmay, hlo])
     have hmz := Dsk.may_zero hmay
     have h0 : 0 ≤ size := by omega
     have h1 : size ≤ ((T.size f : Nat) : Int) := by unfold Dsk.size; omega
     have h2 : size ≤ ((T.file f).1.length : Int) := by omega
     clear hlo
     go_enter Tryz.func52, Tryz.ntmps52
     go_wp2_with (first
      | (go_at_call 78; refine he.mono ?_; rintro e w1 ⟨rfl, h1⟩; obtain ⟨F1, ⟨x1, i1, e1⟩, o1, f1, r1⟩ := h1; have hm := dmay_c ⟨x1, i1, rfl⟩ f; rw [hmay] at hm; obtain ⟨c0, _, _, c3, _, _, _⟩ := i1.cells; have hlk := i1.look f; have z3 := i1.blk.frozen 3; have hsz := dSize_c ⟨x1, i1, rfl⟩ f; have hst := dsettle_c ⟨x1, i1, rfl⟩ f ((T.file f).1.take size.toNat) hmz.2.1 hmz.2.2 (by have := (hok.lens f).1; simp; omega); have HI := Lib.hid (And.intro i1 (And.intro e1 (And.intro o1 (And.intro f1 r1)))); clear i1 e1 o1 f1 r1)
      | (go_at_call 14; refine hcr.mono ?_; rintro e w1 ⟨rfl, h1⟩; fail)
      | (go_at_call 79; refine hm.mono ?_; rintro e w' ⟨rfl, rfl⟩)
      | (go_at_call 50; refine hsz.mono ?_; rintro e w' ⟨rfl, rfl⟩)
      | (go_at_call 80; refine hst.mono ?_; rintro e w5 ⟨rfl, h5⟩))
     go_ret
     rw [Hp.out]
     exact ⟨rfl, DiskTo.trans HI.out.2.2.1 HI.out.2.2.2.1 HI.out.2.2.2.2 (by rw [HI.out.2.1]; exact h5)⟩
 · have Hp := Lib.hid (show T.truncate0 f size = (T, T.may f) from by simp [Dsk.truncate0, hmay])
   have hmb : (T.may f != 0) = true := by simp [hmay]
   go_enter Tryz.func52, Tryz.ntmps52
   go_wp2_with (first
    | (go_at_call 78; refine he.mono ?_; rintro e w1 ⟨rfl, h1⟩; obtain ⟨F1, ⟨x1, i1, e1⟩, o1, f1, r1⟩ := h1; have hm := dmay_c ⟨x1, i1, rfl⟩ f; obtain ⟨c0, _, _, c3, _, _, _⟩ := i1.cells; have hlk := i1.look f; have z3 := i1.blk.frozen 3; have hsz := dSize_c ⟨x1, i1, rfl⟩ f; have HI := Lib.hid (And.intro i1 (And.intro e1 (And.intro o1 (And.intro f1 r1)))); clear i1 e1 o1 f1 r1)
    | (go_at_call 14; refine hcr.mono ?_; rintro e w1 ⟨rfl, h1⟩; fail)
    | (go_at_call 79; refine hm.mono ?_; rintro e w' ⟨rfl, rfl⟩)
    | (go_at_call 50; refine hsz.mono ?_; rintro e w' ⟨rfl, rfl⟩)
    | (go_at_call 80; refine hst.mono ?_; rintro e w5 ⟨rfl, h5⟩))
   go_ret
   rw [Hp.out]
   exact ⟨rfl, DiskTo.trans HI.out.2.2.1 HI.out.2.2.2.1 HI.out.2.2.2.2 (.same ⟨_, HI.out.1, HI.out.2.1⟩)⟩
theorem dSync_true (h : IsDisk w b D F) (f : Int) (hen : D.ends = true) :
 Calls Tryz.prog 48 #[.pointer (some ⟨b, 0, none⟩), .int .i64 f] w fun e w' => e = .returned (.int .i64 (D.sync f).2) ∧ DiskTo w b F (D.sync f).1 w' := by
 have he := dends_c h
 rw [hen] at he
 have hT : D.tock = (D.tick.crash D.tick.keep) := tock_true hen
 unfold Dsk.sync
 rw [hT]
 have hbl : b < w.heap.size := h.lt b (by obtain ⟨x, _, rfl⟩ := h; exact .inl (.inl rfl))
 have hok : ((D.tick.crash D.tick.keep)).Ok := by rw [← hT]; exact h.ok.tock
 clear h hT hen
 generalize hTT : (D.tick.crash D.tick.keep) = T at *
 by_cases hmay : T.may f = 0
 · by_cases hlo : 0 < T.lost
   · have Hp := Lib.hid (show T.sync0 f = ({ T with lost := T.lost - 1 }, 9) from by simp [Dsk.sync0, hmay, hlo])
     have hl2 := hok.lost
     go_enter Tryz.func48, Tryz.ntmps48
     go_wp2_with (first
      | (go_at_call 78; refine he.mono ?_; rintro e w1 ⟨rfl, h1⟩; obtain ⟨Fa, ⟨xa, ia, ea⟩, oa, fa, ra⟩ := h1; have c6 := ia.blk.cell 6; have hcr := dCrash_own ia; rw [hTT] at hcr; have HJ := Lib.hid (And.intro ea (And.intro oa (And.intro fa ra))); clear ia ea oa fa ra)
      | (go_at_call 14; refine hcr.mono ?_; rintro e w1 ⟨rfl, h1⟩; have h1 := DiskTo.trans HJ.out.2.1 HJ.out.2.2.1 HJ.out.2.2.2 (by rw [HJ.out.1]; exact h1); obtain ⟨F1, ⟨x1, i1, e1⟩, o1, f1, r1⟩ := h1; have hm := dmay_c ⟨x1, i1, rfl⟩ f; rw [hmay] at hm; obtain ⟨c0, _, _, c3, _, _, _⟩ := i1.cells; have hlk := i1.look f; have z3 := i1.blk.frozen 3; have hsz := dSize_c ⟨x1, i1, rfl⟩ f; have HI := Lib.hid (And.intro i1 (And.intro e1 (And.intro o1 (And.intro f1 r1)))); clear i1 e1 o1 f1 r1)
      | (go_at_call 79; refine hm.mono ?_; rintro e w' ⟨rfl, rfl⟩)
      | (go_at_call 50; refine hsz.mono ?_; rintro e w' ⟨rfl, rfl⟩)
      | (go_at_call 80; refine hst.mono ?_; rintro e w5 ⟨rfl, h5⟩))
     go_ret
     rw [Hp.out]
     exact ⟨rfl, DiskTo.trans HI.out.2.2.1 HI.out.2.2.2.1 HI.out.2.2.2.2 ((HI.out.1.store (D' := { T with lost := T.lost - 1 }) 3 (.int .i64 (T.lost - 1)) rfl rfl rfl rfl { hok with lost := ⟨by simp only; omega, by simp only; omega⟩ }).to ((Only.refl F1.m _).setCell (.inl (by rw [HI.out.2.1]; exact .inl rfl)) _) HI.out.2.1 fun k hk => .inl hk)⟩
   · have Hp := Lib.hid (show T.sync0 f = (T.settle f (T.file f).1, 0) from by simp [Dsk.sync0, hmay, hlo])
     have hmz := Dsk.may_zero hmay
     go_enter Tryz.func48, Tryz.ntmps48
     go_wp2_with (first
      | (go_at_call 78; refine he.mono ?_; rintro e w1 ⟨rfl, h1⟩; obtain ⟨Fa, ⟨xa, ia, ea⟩, oa, fa, ra⟩ := h1; have c6 := ia.blk.cell 6; have hcr := dCrash_own ia; rw [hTT] at hcr; have HJ := Lib.hid (And.intro ea (And.intro oa (And.intro fa ra))); clear ia ea oa fa ra)
      | (go_at_call 14; refine hcr.mono ?_; rintro e w1 ⟨rfl, h1⟩; have h1 := DiskTo.trans HJ.out.2.1 HJ.out.2.2.1 HJ.out.2.2.2 (by rw [HJ.out.1]; exact h1); obtain ⟨F1, ⟨x1, i1, e1⟩, o1, f1, r1⟩ := h1; have hm := dmay_c ⟨x1, i1, rfl⟩ f; rw [hmay] at hm; obtain ⟨c0, _, _, c3, _, _, _⟩ := i1.cells; have hlk := i1.look f; have z3 := i1.blk.frozen 3; have hsz := dSize_c ⟨x1, i1, rfl⟩ f; have hst := dsettle_c ⟨x1, i1, rfl⟩ f (T.file f).1 hmz.2.1 hmz.2.2 (hok.lens f).1; have HI := Lib.hid (And.intro i1 (And.intro e1 (And.intro o1 (And.intro f1 r1)))); clear i1 e1 o1 f1 r1)
      | (go_at_call 79; refine hm.mono ?_; rintro e w' ⟨rfl, rfl⟩)
      | (go_at_call 50; refine hsz.mono ?_; rintro e w' ⟨rfl, rfl⟩)
      | (go_at_call 80; refine hst.mono ?_; rintro e w5 ⟨rfl, h5⟩))
     go_ret
     rw [Hp.out]
     exact ⟨rfl, DiskTo.trans HI.out.2.2.1 HI.out.2.2.2.1 HI.out.2.2.2.2 (by rw [HI.out.2.1]; exact h5)⟩
 · have Hp := Lib.hid (show T.sync0 f = (T, T.may f) from by simp [Dsk.sync0, hmay])
   have hmb : (T.may f != 0) = true := by simp [hmay]
   go_enter Tryz.func48, Tryz.ntmps48
   go_wp2_with (first
    | (go_at_call 78; refine he.mono ?_; rintro e w1 ⟨rfl, h1⟩; obtain ⟨Fa, ⟨xa, ia, ea⟩, oa, fa, ra⟩ := h1; have c6 := ia.blk.cell 6; have hcr := dCrash_own ia; rw [hTT] at hcr; have HJ := Lib.hid (And.intro ea (And.intro oa (And.intro fa ra))); clear ia ea oa fa ra)
    | (go_at_call 14; refine hcr.mono ?_; rintro e w1 ⟨rfl, h1⟩; have h1 := DiskTo.trans HJ.out.2.1 HJ.out.2.2.1 HJ.out.2.2.2 (by rw [HJ.out.1]; exact h1); obtain ⟨F1, ⟨x1, i1, e1⟩, o1, f1, r1⟩ := h1; have hm := dmay_c ⟨x1, i1, rfl⟩ f; obtain ⟨c0, _, _, c3, _, _, _⟩ := i1.cells; have hlk := i1.look f; have z3 := i1.blk.frozen 3; have hsz := dSize_c ⟨x1, i1, rfl⟩ f; have HI := Lib.hid (And.intro i1 (And.intro e1 (And.intro o1 (And.intro f1 r1)))); clear i1 e1 o1 f1 r1)
    | (go_at_call 79; refine hm.mono ?_; rintro e w' ⟨rfl, rfl⟩)
    | (go_at_call 50; refine hsz.mono ?_; rintro e w' ⟨rfl, rfl⟩)
    | (go_at_call 80; refine hst.mono ?_; rintro e w5 ⟨rfl, h5⟩))
   go_ret
   rw [Hp.out]
   exact ⟨rfl, DiskTo.trans HI.out.2.2.1 HI.out.2.2.2.1 HI.out.2.2.2.2 (.same ⟨_, HI.out.1, HI.out.2.1⟩)⟩
theorem dTruncate_true (h : IsDisk w b D F) (f size : Int) (hen : D.ends = true) (hsi : I64 size) :
 Calls Tryz.prog 52 #[.pointer (some ⟨b, 0, none⟩), .int .i64 f, .int .i64 size] w fun e w' => e = .returned (.int .i64 (D.truncate f size).2) ∧ DiskTo w b F (D.truncate f size).1 w' := by
 have he := dends_c h
 rw [hen] at he
 have hT : D.tock = (D.tick.crash D.tick.keep) := tock_true hen
 unfold Dsk.truncate
 rw [hT]
 have hbl : b < w.heap.size := h.lt b (by obtain ⟨x, _, rfl⟩ := h; exact .inl (.inl rfl))
 have hok : ((D.tick.crash D.tick.keep)).Ok := by rw [← hT]; exact h.ok.tock
 clear h hT hen
 generalize hTT : (D.tick.crash D.tick.keep) = T at *
 by_cases hmay : T.may f = 0
 · by_cases hlo : size < 0 ∨ ((T.file f).1.length : Int) < size
   · have Hp := Lib.hid (show T.truncate0 f size = (T, 1) from by simp [Dsk.truncate0, hmay, hlo])
     by_cases hneg : size < 0
     · go_enter Tryz.func52, Tryz.ntmps52
       go_wp2_with (first
       | (go_at_call 78; refine he.mono ?_; rintro e w1 ⟨rfl, h1⟩; obtain ⟨Fa, ⟨xa, ia, ea⟩, oa, fa, ra⟩ := h1; have c6 := ia.blk.cell 6; have hcr := dCrash_own ia; rw [hTT] at hcr; have HJ := Lib.hid (And.intro ea (And.intro oa (And.intro fa ra))); clear ia ea oa fa ra)
       | (go_at_call 14; refine hcr.mono ?_; rintro e w1 ⟨rfl, h1⟩; have h1 := DiskTo.trans HJ.out.2.1 HJ.out.2.2.1 HJ.out.2.2.2 (by rw [HJ.out.1]; exact h1); obtain ⟨F1, ⟨x1, i1, e1⟩, o1, f1, r1⟩ := h1; have hm := dmay_c ⟨x1, i1, rfl⟩ f; rw [hmay] at hm; obtain ⟨c0, _, _, c3, _, _, _⟩ := i1.cells; have hlk := i1.look f; have z3 := i1.blk.frozen 3; have hsz := dSize_c ⟨x1, i1, rfl⟩ f; have HI := Lib.hid (And.intro i1 (And.intro e1 (And.intro o1 (And.intro f1 r1)))); clear i1 e1 o1 f1 r1)
       | (go_at_call 79; refine hm.mono ?_; rintro e w' ⟨rfl, rfl⟩)
       | (go_at_call 50; refine hsz.mono ?_; rintro e w' ⟨rfl, rfl⟩)
       | (go_at_call 80; refine hst.mono ?_; rintro e w5 ⟨rfl, h5⟩))
       go_ret
       rw [Hp.out]
       exact ⟨rfl, DiskTo.trans HI.out.2.2.1 HI.out.2.2.2.1 HI.out.2.2.2.2 (.same ⟨_, HI.out.1, HI.out.2.1⟩)⟩
     · have hle : ((T.size f : Nat) : Int) < size := by unfold Dsk.size; omega
       go_enter Tryz.func52, Tryz.ntmps52
       go_wp2_with (first
       | (go_at_call 78; refine he.mono ?_; rintro e w1 ⟨rfl, h1⟩; obtain ⟨Fa, ⟨xa, ia, ea⟩, oa, fa, ra⟩ := h1; have c6 := ia.blk.cell 6; have hcr := dCrash_own ia; rw [hTT] at hcr; have HJ := Lib.hid (And.intro ea (And.intro oa (And.intro fa ra))); clear ia ea oa fa ra)
       | (go_at_call 14; refine hcr.mono ?_; rintro e w1 ⟨rfl, h1⟩; have h1 := DiskTo.trans HJ.out.2.1 HJ.out.2.2.1 HJ.out.2.2.2 (by rw [HJ.out.1]; exact h1); obtain ⟨F1, ⟨x1, i1, e1⟩, o1, f1, r1⟩ := h1; have hm := dmay_c ⟨x1, i1, rfl⟩ f; rw [hmay] at hm; obtain ⟨c0, _, _, c3, _, _, _⟩ := i1.cells; have hlk := i1.look f; have z3 := i1.blk.frozen 3; have hsz := dSize_c ⟨x1, i1, rfl⟩ f; have HI := Lib.hid (And.intro i1 (And.intro e1 (And.intro o1 (And.intro f1 r1)))); clear i1 e1 o1 f1 r1)
       | (go_at_call 79; refine hm.mono ?_; rintro e w' ⟨rfl, rfl⟩)
       | (go_at_call 50; refine hsz.mono ?_; rintro e w' ⟨rfl, rfl⟩)
       | (go_at_call 80; refine hst.mono ?_; rintro e w5 ⟨rfl, h5⟩))
       go_ret
       rw [Hp.out]
       exact ⟨rfl, DiskTo.trans HI.out.2.2.1 HI.out.2.2.2.1 HI.out.2.2.2.2 (.same ⟨_, HI.out.1, HI.out.2.1⟩)⟩
   · have Hp := Lib.hid (show T.truncate0 f size = (T.settle f ((T.file f).1.take size.toNat), 0) from by simp [Dsk.truncate0, hmay, hlo])
     have hmz := Dsk.may_zero hmay
     have h0 : 0 ≤ size := by omega
     have h1 : size ≤ ((T.size f : Nat) : Int) := by unfold Dsk.size; omega
     have h2 : size ≤ ((T.file f).1.length : Int) := by omega
     clear hlo
     go_enter Tryz.func52, Tryz.ntmps52
     go_wp2_with (first
      | (go_at_call 78; refine he.mono ?_; rintro e w1 ⟨rfl, h1⟩; obtain ⟨Fa, ⟨xa, ia, ea⟩, oa, fa, ra⟩ := h1; have c6 := ia.blk.cell 6; have hcr := dCrash_own ia; rw [hTT] at hcr; have HJ := Lib.hid (And.intro ea (And.intro oa (And.intro fa ra))); clear ia ea oa fa ra)
      | (go_at_call 14; refine hcr.mono ?_; rintro e w1 ⟨rfl, h1⟩; have h1 := DiskTo.trans HJ.out.2.1 HJ.out.2.2.1 HJ.out.2.2.2 (by rw [HJ.out.1]; exact h1); obtain ⟨F1, ⟨x1, i1, e1⟩, o1, f1, r1⟩ := h1; have hm := dmay_c ⟨x1, i1, rfl⟩ f; rw [hmay] at hm; obtain ⟨c0, _, _, c3, _, _, _⟩ := i1.cells; have hlk := i1.look f; have z3 := i1.blk.frozen 3; have hsz := dSize_c ⟨x1, i1, rfl⟩ f; have hst := dsettle_c ⟨x1, i1, rfl⟩ f ((T.file f).1.take size.toNat) hmz.2.1 hmz.2.2 (by have := (hok.lens f).1; simp; omega); have HI := Lib.hid (And.intro i1 (And.intro e1 (And.intro o1 (And.intro f1 r1)))); clear i1 e1 o1 f1 r1)
      | (go_at_call 79; refine hm.mono ?_; rintro e w' ⟨rfl, rfl⟩)
      | (go_at_call 50; refine hsz.mono ?_; rintro e w' ⟨rfl, rfl⟩)
      | (go_at_call 80; refine hst.mono ?_; rintro e w5 ⟨rfl, h5⟩))
     go_ret
     rw [Hp.out]
     exact ⟨rfl, DiskTo.trans HI.out.2.2.1 HI.out.2.2.2.1 HI.out.2.2.2.2 (by rw [HI.out.2.1]; exact h5)⟩
 · have Hp := Lib.hid (show T.truncate0 f size = (T, T.may f) from by simp [Dsk.truncate0, hmay])
   have hmb : (T.may f != 0) = true := by simp [hmay]
   go_enter Tryz.func52, Tryz.ntmps52
   go_wp2_with (first
    | (go_at_call 78; refine he.mono ?_; rintro e w1 ⟨rfl, h1⟩; obtain ⟨Fa, ⟨xa, ia, ea⟩, oa, fa, ra⟩ := h1; have c6 := ia.blk.cell 6; have hcr := dCrash_own ia; rw [hTT] at hcr; have HJ := Lib.hid (And.intro ea (And.intro oa (And.intro fa ra))); clear ia ea oa fa ra)
    | (go_at_call 14; refine hcr.mono ?_; rintro e w1 ⟨rfl, h1⟩; have h1 := DiskTo.trans HJ.out.2.1 HJ.out.2.2.1 HJ.out.2.2.2 (by rw [HJ.out.1]; exact h1); obtain ⟨F1, ⟨x1, i1, e1⟩, o1, f1, r1⟩ := h1; have hm := dmay_c ⟨x1, i1, rfl⟩ f; obtain ⟨c0, _, _, c3, _, _, _⟩ := i1.cells; have hlk := i1.look f; have z3 := i1.blk.frozen 3; have hsz := dSize_c ⟨x1, i1, rfl⟩ f; have HI := Lib.hid (And.intro i1 (And.intro e1 (And.intro o1 (And.intro f1 r1)))); clear i1 e1 o1 f1 r1)
    | (go_at_call 79; refine hm.mono ?_; rintro e w' ⟨rfl, rfl⟩)
    | (go_at_call 50; refine hsz.mono ?_; rintro e w' ⟨rfl, rfl⟩)
    | (go_at_call 80; refine hst.mono ?_; rintro e w5 ⟨rfl, h5⟩))
   go_ret
   rw [Hp.out]
   exact ⟨rfl, DiskTo.trans HI.out.2.2.1 HI.out.2.2.2.1 HI.out.2.2.2.2 (.same ⟨_, HI.out.1, HI.out.2.1⟩)⟩
theorem dSync_c (h : IsDisk w b D F) (f : Int) :
 Calls Tryz.prog 48 #[.pointer (some ⟨b, 0, none⟩), .int .i64 f] w fun e w' => e = .returned (.int .i64 (D.sync f).2) ∧ DiskTo w b F (D.sync f).1 w' := by
 cases he : D.ends with
 | false => exact dSync_false h f he
 | true => exact dSync_true h f he
theorem dTruncate_c (h : IsDisk w b D F) (f size : Int) (hs : I64 size) :
 Calls Tryz.prog 52 #[.pointer (some ⟨b, 0, none⟩), .int .i64 f, .int .i64 size] w fun e w' => e = .returned (.int .i64 (D.truncate f size).2) ∧ DiskTo w b F (D.truncate f size).1 w' := by
 cases he : D.ends with
 | false => exact dTruncate_false h f size he hs
 | true => exact dTruncate_true h f size he hs
end
end
end Go.Proofs.YtdegmpigkgkafaaGreatDoor
