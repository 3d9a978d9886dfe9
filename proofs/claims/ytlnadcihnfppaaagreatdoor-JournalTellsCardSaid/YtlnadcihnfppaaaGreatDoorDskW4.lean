/-
  The disk's write, walked.
-/
import Derived.Test.YtlnadcihnfppaaaGreatDoorDskW3
import Derived.Test.YtlnadcihnfppaaaGreatDoorDsk2
import Derived.Test.YtlnadcihnfppaaaGreatDoorRegion
import Derived.StillTailTactics
import Derived.Deep.RegionHeld3
import Derived.BigQuiet
namespace Go.Proofs.YtlnadcihnfppaaaGreatDoor
set_option linter.unusedVariables false
set_option linter.unusedSimpArgs false
set_option linter.unusedSectionVars false
set_option maxRecDepth 20000
open Go.RowKit

attribute [local go_sem] MapAt_setCell MapAt.alloc
@[local go_sem] theorem MapAt_drew {κ β : Type} {ke : κ → Value} {ve : β → Value} {w : World} {r clock : Nat} {l : List (κ × β × Nat)} : MapAt ke ve w.drew r l clock ↔ MapAt ke ve w r l clock := Iff.rfl

@[local go_sem] theorem cell?_putMap {w : World} {r : Nat} {o : Obj} (a : Addr) (h : ¬ a.block = r) : (World.putMap w r o).cell? a = w.cell? a :=
  World.cell?_of_block (w := w) (by simp [World.putMap, Ne.symm h])
@[local go_sem] theorem MapAt_putMap {κ β : Type} {ke : κ → Value} {ve : β → Value} {w : World} {r c' : Nat} {l' : List (κ × β × Nat)} (h : r < w.heap.size) : MapAt ke ve (World.putMap w r (.map (l'.map (entOf ke ve)).toArray c')) r l' c' := by
  simp [MapAt, World.putMap, h]
@[local go_sem] theorem size_putMap {w : World} {r : Nat} {o : Obj} : (World.putMap w r o).heap.size = w.heap.size := by simp [World.putMap]
theorem reads_new (w : World) (e : TypeId) (size n : Nat) (cs : List Value) (hc : cs.length = n * size) : Reads (w.alloc (.cells cs.toArray e)) (fun _ => True) size (some ⟨w.heap.size, 0, none⟩) n cs := by
  refine ⟨hc, fun _ => ⟨_, rfl, trivial, by simp, fun j u hu => ?_⟩⟩
  rw [Addr.add_lit, World.cell?_alloc_new]
  simpa using hu

theorem two_cells {w : World} {g : Nat} {t : TypeId} {a c : Value} (h : Blk w g t #[a, c]) : w.cell? ⟨g, 0, none⟩ = some a ∧ w.cell? ⟨g, 1, none⟩ = some c ∧ w.frozen? ⟨g, 0, none⟩ = false ∧ w.frozen? ⟨g, 1, none⟩ = false :=
  ⟨h.cell 0, h.cell 1, h.frozen 0, h.frozen 1⟩

theorem Entries.put {κ β : Type} [DecidableEq κ] {l : List (κ × β × Nat)} {c : Nat} (h : Entries l c) (k : κ) (v : β) : Entries (aput k v c l) (if (assoc k l).isSome then c else c + 1) where
  keys := by
    rw [aput_keys]
    split
    · rename_i hk
      rw [assoc_none] at hk
      refine List.nodup_append.2 ⟨h.keys, by simp, fun a ha b hb => ?_⟩
      simp at hb
      subst hb
      rintro rfl
      exact hk ha
    · exact h.keys
  born := by
    rw [aput_born]
    split
    · refine List.nodup_append.2 ⟨h.born, by simp, fun a ha b hb => ?_⟩
      simp at hb
      subst hb
      obtain ⟨y, hy, rfl⟩ := List.mem_map.1 ha
      have := h.lt y hy
      omega
    · exact h.born
  lt := fun y hy => by
    rcases mem_aput k v c l y hy with h1 | ⟨_, _, h3⟩
    · have := h.lt y h1
      split <;> omega
    · rcases h3 with ⟨h3, h4⟩ | ⟨z, hz, _, h4⟩
      · rw [h3]; simp; omega
      · have := h.lt z hz
        split <;> omega

section
variable {w : World} {b : Nat} {D : Dsk} {F : Foot}

/-- a file is stored -/
theorem IsDiskW.putFile {x : DWit} (h : IsDiskW w b D x) {f : Int} (h0 : 0 ≤ f) (h1 : f < 16) {y : Str × Str} (hy : y.1.length ≤ 16777216 ∧ y.2.length ≤ 16777216) :
    IsDiskW (World.putMap w x.mf (.map ((aput f y x.fc x.fl).map (entOf keyI valF)).toArray (if (assoc f x.fl).isSome then x.fc else x.fc + 1))) b { D with file := Dsk.setFile D.file f y }
      { x with fl := aput f y x.fc x.fl, fc := if (assoc f x.fl).isSome then x.fc else x.fc + 1 } := by
  obtain ⟨a1, a2, a3, a4, a5⟩ := h.apart
  have ho : Only (oneF x.mf) w (World.putMap w x.mf (.map ((aput f y x.fc x.fl).map (entOf keyI valF)).toArray (if (assoc f x.fl).isSome then x.fc else x.fc + 1))) := (Only.refl (oneF x.mf) w).putMap (r := x.mf) (.inl rfl) _
  exact {
    blk := h.blk.only ho (fun e => a1 e.symm)
    fm := h.fm.put _ _
    sm := h.sm.only ho (fun e => a3 e.symm)
    ne := h.ne
    own := own_only h.own ho fun k hk => (a4 k hk).2.1
    kpo := own_only h.kpo ho fun k hk => (a5 k hk).2.1
    abs := fun g => by
      rw [assoc_aput]
      simp only [Dsk.setFile]
      split
      · rfl
      · exact h.abs g
    fent := h.fent.put f y
    sent := h.sent
    fkey := fun z hz => by
      rcases mem_aput f y _ _ z hz with h2 | ⟨h2, _⟩
      · exact h.fkey z h2
      · rw [h2]; exact ⟨h0, h1⟩
    sset := h.sset
    ok := h.ok.setFile h0 h1 hy }

theorem IsDiskW.lookS {x : DWit} (h : IsDiskW w b D x) (f n : Int) (v : Bool) (hv : decide ((f, n) ∈ D.queue) = v) (W : World) (hW : MapAt keyS valB W x.ms x.sl x.sc) :
    (Instr.lookup 57 (.map (some x.ms)) (.agg #[.int .i64 f, .int .i64 n]) false).run Tryz.prog W = .ok (.bool v) W := by
  have := run_lookup_assoc (P := Tryz.prog) (w := W) keyEqS Tryz.underlying57 (zeroBool W) hW (f, n) (ve := valB) (l := x.sl) (r := x.ms) (clock := x.sc)
  rw [h.sset] at this
  subst hv
  by_cases hq : (f, n) ∈ D.queue
  · simpa [hq] using this
  · simpa [hq] using this

theorem DiskTo.more {w w1 w2 : World} (h : DiskTo w b F D w1) (hb : Below w1.heap.size w1 w2) : DiskTo w b F D w2 := by
  obtain ⟨F', h1, h2, h3, h4⟩ := h
  have ho : Only NoF w1 w2 := Only.of_below hb (Nat.le_refl _)
  exact ⟨F', h1.only ho fun _ _ h => h, h2.trans ho fun _ h => h.elim, h3, h4⟩

/-- a sector is added to the list and to the set -/
theorem push_fin {x : DWit} {w4 : World} {f n : Int} {o : Obj} {A : Option Addr} {c : Nat} {W : World} (h : IsDiskW W b D x) (hq : ¬ (f, n) ∈ D.queue) (h0 : 0 ≤ f) (h1 : f < 16) (h2 : 0 ≤ n) (h3 : n ≤ 262144)
    (hown : w4.ownsRow 0 76 2 (.slice A (D.queue.length + 1) c) (D.queue.length + 1) (secCells D.queue ++ [.int .i64 f, .int .i64 n])) (hg : (W.alloc o).drew.grownBy w4 x.q.ownBlock)
    (hat : (Value.slice A (D.queue.length + 1) c).ownBlock = x.q.ownBlock ∨ (Value.slice A (D.queue.length + 1) c).ownBlock = some (W.alloc o).drew.heap.size) :
    DiskTo W b (x.foot b) { D with queue := Dsk.push D.queue (f, n) }
      (World.putMap (World.putMap (w4.setCell ⟨b, 1, none⟩ (.slice A (D.queue.length + 1) c)) x.ms (.map ((x.sl ++ [((f, n), false, x.sc)]).map (entOf keyS valB)).toArray (x.sc + 1))) x.ms (.map ((x.sl ++ [((f, n), true, x.sc)]).map (entOf keyS valB)).toArray (x.sc + 1))) := by
  obtain ⟨a1, a2, a3, a4, a5⟩ := h.apart
  have hqn : ∀ k, x.q.ownBlock = some k → k < W.heap.size := own_lt h.own
  -- up to the append
  have o4 : Only (fun k => x.q.ownBlock = some k) W w4 := (((Only.refl _ W).alloc o).drew).grown hg fun k hk => .inl hk
  have hb4 := h.blk.only o4 fun e => (a4 b e).1 rfl
  have hf4 := h.fm.only o4 fun e => (a4 _ e).2.1 rfl
  have hs4 := h.sm.only o4 fun e => (a4 _ e).2.2 rfl
  have hk4 := own_only h.kpo o4 fun k hk hq' => (a5 k hk).2.2.2 hq'
  -- behind it
  have o5 : ∀ {F : Nat → Prop} {u : Value} {o1 o2 : Obj}, F b → F x.ms → Only F w4 (World.putMap (World.putMap (w4.setCell ⟨b, 1, none⟩ u) x.ms o1) x.ms o2) := fun hb hm =>
    (((Only.refl _ w4).setCell (p := ⟨b, 1, none⟩) (.inl hb) _).putMap (.inl hm) _).putMap (.inl hm) _
  have hne : ∀ k, (Value.slice A (D.queue.length + 1) c).ownBlock = some k → k ≠ b ∧ k ≠ x.ms := fun k hk => by
    obtain ⟨cur, hc⟩ := own_type hown k hk
    exact ⟨hc.ne_ hb4 (by decide), (map_ne_blk hs4 hc).symm⟩
  have hpush : Dsk.push D.queue (f, n) = D.queue ++ [(f, n)] := by simp [Dsk.push, hq]
  have hD : IsDiskW (World.putMap (World.putMap (w4.setCell ⟨b, 1, none⟩ (.slice A (D.queue.length + 1) c)) x.ms (.map ((x.sl ++ [((f, n), false, x.sc)]).map (entOf keyS valB)).toArray (x.sc + 1))) x.ms (.map ((x.sl ++ [((f, n), true, x.sc)]).map (entOf keyS valB)).toArray (x.sc + 1))) b
      { D with queue := Dsk.push D.queue (f, n) } { x with q := .slice A (D.queue.length + 1) c, sl := x.sl ++ [((f, n), true, x.sc)], sc := x.sc + 1 } := {
    blk := ((hb4.set_ 1 _).putMap (Ne.symm a2) _).putMap (Ne.symm a2) _
    fm := hf4.only (o5 (F := fun k => k = b ∨ k = x.ms) (.inl rfl) (.inr rfl)) (fun hh => hh.elim a1 a3)
    sm := MapAt_putMap (by simpa [World.putMap] using heap_lt hs4)
    ne := h.ne
    own := by
      simp only [hpush, List.length_append, List.length_cons, List.length_nil, Nat.zero_add]
      have e : secCells (D.queue ++ [(f, n)]) = secCells D.queue ++ [.int .i64 f, .int .i64 n] := by simp [secCells]
      rw [e]
      exact own_only hown (o5 (F := fun k => k = b ∨ k = x.ms) (.inl rfl) (.inr rfl)) fun k hk hh => hh.elim (hne k hk).1 (hne k hk).2
    kpo := own_only hk4 (o5 (F := fun k => k = b ∨ k = x.ms) (.inl rfl) (.inr rfl)) fun k hk hh => hh.elim (a5 k hk).1 (a5 k hk).2.2.1
    abs := h.abs
    fent := h.fent
    sent := by
      have hn : assoc (f, n) x.sl = none := by rw [h.sset, if_neg hq]
      have := h.sent.put (f, n) true
      rw [aput_none (assocIx_none hn), hn] at this
      exact this
    fkey := h.fkey
    sset := fun p => by
      have hn : assoc (f, n) x.sl = none := by rw [h.sset, if_neg hq]
      rw [← aput_none (assocIx_none hn), assoc_aput, h.sset]
      by_cases hp : p = (f, n)
      · simp [hp, hpush]
      · simp [hp, hpush]
    ok := h.ok.push h0 h1 h2 h3 }
  refine hD.to ((o4.mono fun k hk => .inr (.inr (.inr (.inl hk)))).trans' (o5 (.inl rfl) (.inr (.inr (.inl rfl))))) rfl fun k hk => ?_
  rcases hk with hk | hk | hk | hk | hk
  · exact .inl (.inl hk)
  · exact .inl (.inr (.inl hk))
  · exact .inl (.inr (.inr (.inl hk)))
  · rcases hat with e | e
    · exact .inl (.inr (.inr (.inr (.inl (by rw [← e]; exact hk)))))
    · refine .inr ?_
      have : some k = some (W.alloc o).drew.heap.size := hk.symm.trans e
      simp at this
      omega
  · exact .inl (.inr (.inr (.inr (.inr hk))))

theorem foot_same {x x' : DWit} {b : Nat} (e1 : x'.mf = x.mf) (e2 : x'.ms = x.ms) (e3 : x'.q = x.q) (e4 : x'.kp = x.kp) : x'.foot b = x.foot b := by
  unfold DWit.foot
  rw [e1, e2, e3, e4]

theorem write_first {x : DWit} {w1 : World} {f : Int} {a : Nat} {s : Str} {g : Nat} {u : Value} (h : IsDiskW w1 b D x) (ho : Only NoF w w1) (hg : w.heap.size ≤ g) (h0 : 0 ≤ f) (h1 : f < 16) (ha : a + s.length ≤ 16777216) (hx : ∀ k, (x.foot b).all k → k < w.heap.size) :
    DiskTo w b (x.foot b) (D.wrote f a s 0) (World.putMap (w1.setCell ⟨g, 0, none⟩ u).drew x.mf (.map ((aput f (put (D.file f).1 a s, (D.file f).2) x.fc x.fl).map (entOf keyI valF)).toArray (if (assoc f x.fl).isSome then x.fc else x.fc + 1))) := by
  have o1 : Only (oneF g) w1 (w1.setCell ⟨g, 0, none⟩ u).drew := ((Only.refl (oneF g) w1).setCell (p := ⟨g, 0, none⟩) (.inl rfl) u).drew
  have h2 := h.only o1 fun k hk e => by have := hx k hk; rw [e] at this; omega
  have h3 := h2.putFile h0 h1 (y := (put (D.file f).1 a s, (D.file f).2)) ⟨length_put_le _ _ _ _ (h.ok.lens f).1 (fun _ => ha), (h.ok.lens f).2⟩
  rw [Dsk.wrote_zero]
  refine h3.to (((ho.trans o1 fun i hi => .inr (by rw [hi]; exact hg)).mono fun _ h => h.elim).putMap (.inl (.inr (.inl rfl))) _) rfl fun k hk => .inl ?_
  rw [foot_same rfl rfl rfl rfl] at hk
  exact hk

set_option maxHeartbeats 1000000 in
theorem dwrite_some (h : IsDisk w b D F) (f at_ : Int) (s : Str) (hm : D.may f = 0) (hf : Dsk.fits at_ s) (hs : s ≠ []) :
    Calls Tryz.prog 50 #[.pointer (some ⟨b, 0, none⟩), .int .i64 f, .int .i64 at_, strV s] w fun e w' => e = .returned (.int .i64 0) ∧ DiskTo w b F (D.add f at_.toNat s) w' := by
  obtain ⟨a, rfl⟩ : ∃ a : Nat, at_ = a := ⟨at_.toNat, by have := hf.1; omega⟩
  rw [Int.toNat_natCast]
  have hmc := dmay_c h f
  rw [hm] at hmc
  have hmz := Dsk.may_zero hm
  obtain ⟨x, h, hF⟩ := h
  have HF := Lib.hid hF
  have H := Lib.hid h
  obtain ⟨h0, _, _, _, _, _, _⟩ := h.cells
  have hl := h.look f
  have hne : ¬ w.heap.size = b := by have := h.blk.lt; omega
  have hlen := (h.ok.lens f).1
  obtain ⟨hf0, hf1, hf2⟩ := hf
  have hsl : s.length ≤ 16777216 := by omega
  have hse : s.isEmpty = false := by simpa using hs
  have hput := fun W => dput_c W (D.file f).1 s a hf0 hf1 hlen hsl
  rw [Int.toNat_natCast] at hput
  clear hF h hm
  go_enter Tryz.func50, Tryz.ntmps50
  go_wp2_with (first | (go_at_call 46; refine hmc.mono ?_; rintro e w' ⟨rfl, rfl⟩) | (go_at_call 44; refine (hput _).mono ?_; rintro e w1 ⟨rfl, ho1⟩; have hB := Lib.hid (two_cells ((Blk.new w 78 #[strV (D.file f).1, strV (D.file f).2]).only ho1 id)); have c0 := hB.out.1; have c1 := hB.out.2.1; have z0 := hB.out.2.2.1; have H1 := Lib.hid (H.out.only (((Only.refl NoF w).alloc _).trans' ho1) fun _ _ h => h); have h0' := H1.out.cells.1; have hm1 := H1.out.fm; have hlt := ho1.size; simp only [World.size_alloc] at hlt))
  have hup := fun W hW => run_mapUpdate_assoc (P := Tryz.prog) (w := W) keyEqI Tryz.underlying56 hW f (put (D.file f).1 a s, (D.file f).2) (ve := valF) (l := x.fl) (r := x.mf) (clock := x.fc)
  go_region
  have HD := Lib.hid (write_first (w := w) (f := f) (a := a) (s := s) (D := D) (u := strV (put (D.file f).1 a s)) H1.out (((Only.refl NoF w).alloc _).trans' ho1) (Nat.le_refl w.heap.size) hmz.2.1 hmz.2.2 (by omega) H.out.foot_lt)
  rw [← HF.out] at HD
  generalize hWG : World.putMap _ x.mf _ = W2 at HD ⊢
  have hcnt := Dsk.length_secs a s.length
  have hsp : 0 < s.length := List.length_pos_iff.2 hs
  have Hs := Lib.hid hs
  clear hup c0 c1 z0 h0' hm1 hlt hB H1 ho1 hWG hl hput hmc hs
  go_wp2_with fail
  go_loopw [11] (fun n wr => ∃ i : Nat, i ≤ (Dsk.secs a s.length).length ∧ n = .int .i64 ((a / 64 + i : Nat) : Int) ∧ DiskTo w b F (D.wrote f a s i) wr) (fun n _ => a / 64 + (Dsk.secs a s.length).length - (intOf n).toNat)
  case atStart => exact ⟨0, by omega, by go_num, HD.out⟩
  case round =>
    obtain ⟨i, hi, rfl, hD⟩ := hrel
    have HDi := Lib.hid hD
    clear hD HD
    by_cases hlt : i < (Dsk.secs a s.length).length
    · obtain ⟨Fi, ⟨xi, hxi, hFi⟩, hOi, hFi2, hFi3⟩ := HDi.out
      have Hxi := Lib.hid hxi
      clear hxi
      obtain ⟨_, d1, d2, _⟩ := Hxi.out.cells
      have z1 := Hxi.out.blk.frozen 1
      have hbl := Hxi.out.blk.lt
      have hnb : ¬ wr.heap.size = b := by omega
      have hmt := Hxi.out.sm
      have hN : ((a / 64 + i : Nat) : Int) = (a : Int) / 64 + (i : Int) := by omega
      by_cases hq : (f, (a : Int) / 64 + (i : Int)) ∈ (D.wrote f a s i).queue
      · have hlk := Hxi.out.lookS f ((a : Int) / 64 + (i : Int)) true (by simp [hq])
        have HN := Lib.hid hN
        clear hN
        go_wp2_with fail
        go_region
        go_wp2_with fail
        go_roundw
        case rel =>
          refine ⟨i + 1, by omega, by go_num, ?_⟩
          rw [Dsk.wrote_succ D f a s i hlt, HN.out, Dsk.push, if_pos hq]
          exact HDi.out.more (Below.refl _ _ |>.alloc (Nat.le_refl _) _ |>.drew)
        case measure => simp [intOf]; omega
      · have hlk := Hxi.out.lookS f ((a : Int) / 64 + (i : Int)) false (by simp [hq])
        have HN := Lib.hid hN
        have Hq := Lib.hid hq
        clear hN hq
        go_wp2_with fail
        go_region
        go_wp2_with fail
        have H3 := Lib.hid (Hxi.out.only (((Only.refl NoF wr).alloc (.cells #[.int .i64 f, .int .i64 ((a : Int) / 64 + (i : Int))] 76)).drew) fun _ _ h => h)
        have HP := Lib.hid ((Blk.new wr 76 #[.int .i64 f, .int .i64 ((a : Int) / 64 + (i : Int))]).drew)
        have HO := Lib.hid ((((Below.refl wr.heap.size wr).alloc (Nat.le_refl _) (.cells #[.int .i64 f, .int .i64 ((a : Int) / 64 + (i : Int))] 76)).drew))
        clear hlk d1 d2 z1 hmt
        generalize (wr.alloc (.cells #[.int .i64 f, .int .i64 ((a : Int) / 64 + (i : Int))] 76)).drew = w3 at H3 HP HO ⊢
        obtain ⟨_, d1, d2, _⟩ := H3.out.cells
        obtain ⟨p0, p1, _, _⟩ := two_cells HP.out
        have hmt := H3.out.sm
        have hassoc : assoc (f, (a : Int) / 64 + (i : Int)) xi.sl = none := by rw [H3.out.sset, if_neg Hq.out]
        have hme := fun W hW => run_mapEntry_new (P := Tryz.prog) (w := W) keyEqS Tryz.underlying57 false zeroBool hW hassoc (ve := valB) (r := xi.ms) (clock := xi.sc)
        have hes := fun W hW => run_entryStore_last (P := Tryz.prog) (w := W) (T := 57) (k := (f, (a : Int) / 64 + (i : Int))) (z := false) true H3.out.sent.lt hW (ke := keyS) (ve := valB) (r := xi.ms) (c' := xi.sc + 1)
        clear hassoc
        obtain ⟨ti, hti, hz0, hz1, hz2⟩ := info_parts info_Sec
        have hql := H3.out.ok.qlen
        obtain ⟨a1, a2, a3, a4, a5⟩ := H3.out.apart
        have hbq : some b ≠ xi.q.ownBlock := fun e => (a4 b e.symm).1 rfl
        have hpq : some wr.heap.size ≠ xi.q.ownBlock := fun e => by
          have := own_lt Hxi.out.own _ e.symm
          omega
        have hbm : ¬ b = xi.ms := fun e => a2 e.symm
        have hpm : ¬ wr.heap.size = xi.ms := fun e => by
          have := heap_lt Hxi.out.sm
          omega
        clear a1 a2 a3 a4 a5
        have hw3 : wr.heap.size < w3.heap.size := HP.out.lt
        have hbw3 : b < w3.heap.size := H3.out.blk.lt
        have hmw3 : xi.ms < w3.heap.size := heap_lt H3.out.sm
        refine wp_region_reads [0, 1, 2, 3, 6, 7, 8, 4, 5, 9, 10] [11, 12, 13, 14, 15, 16, 17, 18] (fun k w' => (k ≤ 2 → w'.cell? ⟨b, 2, none⟩ = some (.map (some xi.ms)) ∧ w'.cell? ⟨b, 1, none⟩ = some xi.q) ∧ (k ≤ 5 → w'.cell? ⟨wr.heap.size, 0, none⟩ = some (.int .i64 f) ∧ w'.cell? ⟨wr.heap.size, 1, none⟩ = some (.int .i64 ((a : Int) / 64 + (i : Int))))) (by kernel_rfl) (by kernel_rfl) (fun _ _ _ _ _ h => h) ⟨fun _ => ⟨d2, d1⟩, fun _ => ⟨p0, p1⟩⟩ ?_
        iterate 7
          refine wpReads_cons rfl ?_ (by rfl) (fun w' k hk hS => ?_) ?_
          rotate_left
          · go_simp
            with_reducible rfl
          try go_simp
        iterate 2
          refine wpReads_cons rfl ?_ (by rfl) (fun w' k hk hS => ?_) ?_
          rotate_left
          · obtain ⟨s2, s1⟩ := hS.1 (Nat.le_trans hk (Nat.le_of_ble_eq_true (by kernel_rfl)))
            go_simp
            with_reducible rfl
          try go_simp
          refine wpReads_cons rfl ?_ (by rfl) (fun w' k hk hS => ?_) ?_
          rotate_left
          · obtain ⟨s2, s1⟩ := hS.2 (Nat.le_trans hk (Nat.le_of_ble_eq_true (by kernel_rfl)))
            go_simp
            with_reducible rfl
          try go_simp
        refine wpReads_nil ?_
        refine wpTail_run rfl rfl (by go_simp; exact ⟨rfl, rfl⟩) ⟨fun _ => ⟨by go_simp, by go_simp⟩, fun _ => ⟨by go_simp, by go_simp⟩⟩ ?_
        try go_simp
        have hown : ((w3.alloc (.cells #[.int .i64 f, .int .i64 ((a : Int) / 64 + (i : Int))] 76)).drew).ownsRow 0 76 2 xi.q (D.wrote f a s i).queue.length (secCells (D.wrote f a s i).queue) := own_only H3.out.own (((Only.refl NoF w3).alloc _).drew) fun _ _ h => h
        have hrd : Reads ((w3.alloc (.cells #[.int .i64 f, .int .i64 ((a : Int) / 64 + (i : Int))] 76)).drew) (fun k => k = w3.heap.size) 2 (some ⟨w3.heap.size, 0, none⟩) 1 [.int .i64 f, .int .i64 ((a : Int) / 64 + (i : Int))] := by
          refine ⟨rfl, fun _ => ⟨_, rfl, rfl, by simp, fun j u hu => ?_⟩⟩
          have hB := (Blk.new w3 76 #[.int .i64 f, .int .i64 ((a : Int) / 64 + (i : Int))]).drew
          rcases j with _ | _ | j
          · simp at hu; subst hu; exact hB.cell 0
          · simp at hu; subst hu; exact hB.cell 1
          · simp at hu
        refine wpTail_cons rfl rfl (wp_append_any _ _ _ _ rfl 0 76 ti _ 2 16 Tryz.underlying58 hti hz0 hz1 hz2 rfl (by decide) xi.q _ _ rfl hown _ _ 1 1 _ rfl hrd ?_ ?_ ?_ (Nat.zero_le _) ?_)
        · simp [Value.oneCell']
        · simp [maxLen]; omega
        · omega
        intro v' w4 hown4 hg hat
        obtain ⟨A, c, rfl, hc1, hc2, _⟩ := Reads.of_own hown4
        have o4 : Only (fun k => xi.q.ownBlock = some k) w3 w4 := ((((Only.refl _ w3).alloc _).drew).grown hg fun k hk => .inl hk)
        have B4 := Lib.hid (H3.out.blk.only o4 fun e => hbq e.symm)
        have P4 := Lib.hid (HP.out.only o4 fun e => hpq e.symm)
        have hmt4 := H3.out.sm.only o4 fun e => (H3.out.apart.2.2.2.1 _ e).2.2 rfl
        have hm4 : xi.ms < w4.heap.size := heap_lt hmt4
        have e1 := B4.out.cell 1
        have e2 := B4.out.cell 2
        have z1 := B4.out.frozen 1
        have e3 := P4.out.cell 0
        have e4 := P4.out.cell 1
        have hfin := Lib.hid (push_fin H3.out Hq.out hmz.2.1 hmz.2.2 (by omega) (by omega) hown4 hg hat)
        refine ⟨⟨fun _ => ⟨e2, e1⟩, fun _ => ⟨e3, e4⟩⟩, ?_⟩
        clear d1 d2 p0 p1 hmt hown hrd hown4 hg hat
        try go_simp
        iterate 2
          refine wpTail_run rfl rfl (by go_simp; exact ⟨rfl, rfl⟩) ⟨fun _ => ⟨by go_simp, by go_simp⟩, fun _ => ⟨by go_simp, by go_simp⟩⟩ ?_
          try go_simp
        refine wpTail_skip rfl rfl (by go_simp; with_reducible rfl) ⟨fun h => absurd h (by decide), fun _ => ⟨by go_simp, by go_simp⟩⟩ ?_
        try go_simp
        iterate 2
          refine wpTail_run rfl rfl (by go_simp; exact ⟨rfl, rfl⟩) ⟨fun h => absurd h (by decide), fun h => absurd h (by decide)⟩ ?_
          try go_simp
        have hes1 := hes (World.putMap (w4.setCell ⟨b, 1, none⟩ (.slice A ((D.wrote f a s i).queue.length + 1) c)) xi.ms (.map ((xi.sl ++ [((f, (a : Int) / 64 + (i : Int)), false, xi.sc)]).map (entOf keyS valB)).toArray (xi.sc + 1))) (MapAt_putMap (by go_simp))
        simp only [List.map_append, List.map_cons, List.map_nil] at hes1
        refine wpTail_skip rfl rfl (by go_simp; with_reducible rfl) ⟨fun h => absurd h (by decide), fun h => absurd h (by decide)⟩ ?_
        try go_simp
        refine wpTail_nil ?_
        have HD3 : DiskTo w b F (D.wrote f a s (i + 1)) (World.putMap
            (World.putMap (w4.setCell ⟨b, 1, none⟩ (.slice A ((D.wrote f a s i).queue.length + 1) c)) xi.ms (.map ((xi.sl ++ [((f, (a : Int) / 64 + (i : Int)), false, xi.sc)]).map (entOf keyS valB)).toArray (xi.sc + 1)))
            xi.ms (.map ((xi.sl ++ [((f, (a : Int) / 64 + (i : Int)), true, xi.sc)]).map (entOf keyS valB)).toArray (xi.sc + 1))) := by
          rw [Dsk.wrote_succ D f a s i hlt, HN.out]
          exact DiskTo.trans (hOi.trans (Only.of_below (F := NoF) HO.out (Nat.le_refl _)) fun _ h => h.elim) (fun k hk => hFi2 k (by rw [hFi]; exact hk)) (fun k hk => hFi3 k (by rw [hFi]; exact hk)) hfin.out
        simp only [List.map_append, List.map_cons, List.map_nil] at HD3
        have HD4 := Lib.hid HD3
        clear HD3 hes1
        generalize World.putMap (World.putMap _ xi.ms _) xi.ms _ = W6 at HD4 ⊢
        clear hfin B4 P4 hmt4 o4 e1 e2 e3 e4 z1
        go_wp2_with fail
        go_roundw
        case rel => exact ⟨i + 1, by omega, by go_num, HD4.out⟩
        case measure => simp [intOf]; omega
    · go_wp2_with fail
      go_ret
      refine ⟨rfl, ?_⟩
      rw [← Dsk.wrote_all D f a s Hs.out i (by omega)]
      exact HDi.out
end
end Go.Proofs.YtlnadcihnfppaaaGreatDoor
