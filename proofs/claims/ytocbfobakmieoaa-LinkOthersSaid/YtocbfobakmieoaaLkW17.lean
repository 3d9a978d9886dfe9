/-
  The link's Run, walked: what its rounds keep. Condition: at most 1,000,000 elements.
-/
import Derived.Test.YtocbfobakmieoaaLkW16
namespace Go.Proofs.Ytocbfobakmieoaa
set_option linter.unusedVariables false
set_option linter.unusedSimpArgs false
set_option linter.unusedSectionVars false
open Go.RowKit

def errCells (l : List Int) : List Value := l.map fun n => .int .i64 n
theorem errCells_one (l : List Int) : ∀ u ∈ errCells l, u.oneCell' = true := by
  intro u hu
  obtain ⟨n, _, rfl⟩ := List.mem_map.1 hu
  rfl
theorem Errs.own {w : World} {v : Value} {base : Nat} {l : List Int} (h : w.ownsRow base 32 1 v l.length (errCells l)) (hm : ∀ n ∈ l, I64 n) : Errs w v l := by
  obtain ⟨A, c, e, h1, h2, h3⟩ := Reads.of_own h
  refine ⟨A, c, errCells l, e, h1, h2, h3.sup fun _ _ => trivial, fun i x hx => ⟨?_, hm x (List.mem_of_getElem? hx)⟩⟩
  obtain ⟨hi, rfl⟩ := List.getElem?_eq_some_iff.1 hx
  rw [errCells, Nat.mul_one, List.drop_eq_getElem_cons (by simpa using hi)]
  simp
/-- what the rounds keep -/
def RunSt (w : World) (r : Air × List Msg × List Int) (vc ve : Value) (wr : World) : Prop :=
  ∃ u1 u2, Blk wr (w.heap.size + 1) 25 #[u1, u2] ∧ OwnAir (w.heap.size + 1 + 1) wr (.agg #[u1, u2]) r.1 ∧ wr.ownsRow (w.heap.size + 1 + 1) 27 3 vc r.2.1.length (msgCells r.2.1) ∧
    wr.ownsRow (w.heap.size + 1 + 1) 32 1 ve r.2.2.length (errCells r.2.2) ∧ (∀ j, vc.ownBlock = some j → u1.ownBlock ≠ some j) ∧ Only NoF w wr ∧ AirOk r.1 ∧ (∀ m ∈ r.2.1, MsgOk m) ∧ ∀ n ∈ r.2.2, I64 n
theorem grown_only {w w' : World} {v : Value} (h : w.grownBy w' v.ownBlock) : Only (fun k => v.ownBlock = some k) w w' := (Only.refl _ w).grown h fun k hk => .inl hk

theorem run_mid {w W0 W1 W2 : World} {o : Obj} {vc vc' ve ve' y1 y2 : Value} {nx : Air} {ms news : List Msg} {es : List Int} {n : Int}
    (hB : Blk W0 (w.heap.size + 1) 25 #[y1, y2]) (hA : OwnAir (w.heap.size + 1 + 1) W0 (.agg #[y1, y2]) nx)
    (hc : W0.ownsRow (w.heap.size + 1 + 1) 27 3 vc ms.length (msgCells ms)) (he : W0.ownsRow (w.heap.size + 1 + 1) 32 1 ve es.length (errCells es))
    (hne : ∀ j, vc.ownBlock = some j → y1.ownBlock ≠ some j) (hO : Only NoF w W0) (hk : AirOk nx) (hm : ∀ m ∈ ms ++ news, MsgOk m) (hn : ∀ n ∈ es, I64 n) (hn' : I64 n)
    (g1 : W0.grownBy W1 vc.ownBlock) (c1 : W1.ownsRow (w.heap.size + 1 + 1) 27 3 vc' (ms.length + news.length) (msgCells ms ++ msgCells news)) (a1 : vc'.ownBlock = vc.ownBlock ∨ vc'.ownBlock = some W0.heap.size)
    (g2 : (W1.alloc o).grownBy W2 ve.ownBlock) (c2 : W2.ownsRow (w.heap.size + 1 + 1) 32 1 ve' (es.length + 1) (errCells es ++ [.int .i64 n])) :
    RunSt w (nx, ms ++ news, es ++ [n]) vc' ve' W2 := by
  obtain ⟨x1, x2, hx, r1, r2⟩ := hA
  obtain ⟨rfl, rfl⟩ : y1 = x1 ∧ y2 = x2 := by
    injection hx with hx
    have := congrArg Array.toList hx
    simpa using this
  have o1 := grown_only g1
  have o2 := grown_only g2
  have hc_lt := fun k hk => hc.lt k hk
  have he_lt := fun k hk => he.lt k hk
  have e1 := own_only he o1 fun k h h' => own_ne he hc (by decide) k h (h'.symm ▸ rfl)
  have m1 := own_only r1 o1 fun k h h' => hne k h' h
  have p1 := own_only r2 o1 fun k h h' => own_ne r2 hc (by decide) k h (h'.symm ▸ rfl)
  have B1 := hB.only o1 fun h => by have := hc_lt _ h; omega
  have al := (Only.refl NoF W1).alloc o
  have e2 := own_keep e1 al
  have m2 := own_only (own_keep m1 al) o2 fun k h h' => own_ne (own_keep m1 al) e2 (by decide) k h (h'.symm ▸ rfl)
  have p2 := own_only (own_keep p1 al) o2 fun k h h' => own_ne (own_keep p1 al) e2 (by decide) k h (h'.symm ▸ rfl)
  have C2 := own_only (own_keep c1 al) o2 fun k h h' => own_ne (own_keep c1 al) e2 (by decide) k h (h'.symm ▸ rfl)
  have B2 := (B1.keep al).only o2 fun h => by have := he_lt _ h; omega
  refine ⟨_, _, B2, ⟨_, _, rfl, m2, p2⟩, ?_, ?_, fun j hj h => ?_, ?_, hk, hm, ?_⟩
  · simpa only [List.length_append, msgCells_append] using C2
  · simpa only [List.length_append, List.length_singleton, errCells, List.map_append, List.map_cons, List.map_nil] using c2
  · rcases a1 with a1 | a1
    · exact hne j (a1 ▸ hj) h
    · rw [a1] at hj
      have := (r1.lt j h).2
      injection hj with hj
      omega
  · have q1 : Only NoF w W1 := hO.trans o1 fun k hk => .inr (by have := hc_lt k hk; omega)
    exact (q1.alloc o).trans o2 fun k hk => .inr (by have := he_lt k hk; omega)
  · intro x hx
    rcases List.mem_append.1 hx with hx | hx
    · exact hn x hx
    · rw [List.mem_singleton.1 hx]; exact hn'
theorem runs_step (a : Air) (l : List Ev) (k : Nat) (h : k < l.length) :
    Lnk.runs a (l.take (k + 1)) = (Lnk.next (Lnk.runs a (l.take k)).1 l[k], (Lnk.runs a (l.take k)).2.1 ++ (Lnk.do_ (Lnk.runs a (l.take k)).1 l[k]).2.1, (Lnk.runs a (l.take k)).2.2 ++ [(Lnk.do_ (Lnk.runs a (l.take k)).1 l[k]).2.2]) := by
  rw [List.take_succ_eq_append_getElem h, Lnk.runs_append]
  simp [Lnk.runs]
theorem agg2_inj {a b c d : Value} (h : Value.agg #[a, b] = .agg #[c, d]) : a = c ∧ b = d := by
  injection h with h
  have := congrArg Array.toList h
  simpa using this
/-- what holds ahead of the round's two appends -/
structure Mid (w : World) (y1 y2 vc ve : Value) (nx : Air) (ms : List Msg) (es : List Int) (E9 : Option Addr) (dm : List Msg) (W0 : World) : Prop where
  blk : Blk W0 (w.heap.size + 1) 25 #[y1, y2]
  air : OwnAir (w.heap.size + 1 + 1) W0 (.agg #[y1, y2]) nx
  rc : W0.ownsRow (w.heap.size + 1 + 1) 27 3 vc ms.length (msgCells ms)
  re : W0.ownsRow (w.heap.size + 1 + 1) 32 1 ve es.length (errCells es)
  ne : ∀ j, vc.ownBlock = some j → y1.ownBlock ≠ some j
  only : Only NoF w W0
  rm : Reads W0 AllB 3 E9 dm.length (msgCells dm)
  size : w.heap.size + 1 + 1 ≤ W0.heap.size
section
variable {w wr w5 : World} {o o' : Obj} {y1 y2 z1 z2 vc ve : Value} {b da : Air} {ms dm : List Msg} {es : List Int} {E9 : Option Addr} {e9 : Nat}
theorem mid_no (hB : Blk wr (w.heap.size + 1) 25 #[y1, y2]) (hA : OwnAir (w.heap.size + 1 + 1) wr (.agg #[y1, y2]) b)
    (hc : wr.ownsRow (w.heap.size + 1 + 1) 27 3 vc ms.length (msgCells ms)) (he : wr.ownsRow (w.heap.size + 1 + 1) 32 1 ve es.length (errCells es))
    (hne : ∀ j, vc.ownBlock = some j → y1.ownBlock ≠ some j) (hO : Only NoF w wr) (o5 : Only NoF (wr.alloc o) w5) (hm : w5.ownsRow (wr.alloc o).heap.size 27 3 (.slice E9 dm.length e9) dm.length (msgCells dm)) :
    Mid w y1 y2 vc ve b ms es E9 dm (w5.alloc o') := by
  have p : Only NoF wr (w5.alloc o') := (((Only.refl NoF wr).alloc o).trans' o5).alloc o'
  obtain ⟨_, _, hx, _, _, q⟩ := Reads.of_own (own_keep hm ((Only.refl NoF w5).alloc o'))
  cases hx
  exact ⟨hB.keep p, hA.keep p, own_keep hc p, own_keep he p, hne, hO.trans' p, q.sup fun _ _ => trivial, Nat.le_trans hB.lt p.size⟩
theorem mid_ok (hB : Blk wr (w.heap.size + 1) 25 #[y1, y2])
    (hc : wr.ownsRow (w.heap.size + 1 + 1) 27 3 vc ms.length (msgCells ms)) (he : wr.ownsRow (w.heap.size + 1 + 1) 32 1 ve es.length (errCells es))
    (hO : Only NoF w wr) (o5 : Only NoF (wr.alloc o) w5) (hA : OwnAir (wr.alloc o).heap.size w5 (.agg #[z1, z2]) da) (hm : w5.ownsRow (wr.alloc o).heap.size 27 3 (.slice E9 dm.length e9) dm.length (msgCells dm)) :
    Mid w z1 z2 vc ve da ms es E9 dm (((w5.alloc o').setCell ⟨w.heap.size + 1, 0, none⟩ z1).setCell ⟨w.heap.size + 1, 1, none⟩ z2) := by
  have p : Only NoF wr (w5.alloc o') := (((Only.refl NoF wr).alloc o).trans' o5).alloc o'
  have hlt := hB.lt
  have s : Only (oneF (w.heap.size + 1)) (w5.alloc o') (((w5.alloc o').setCell ⟨w.heap.size + 1, 0, none⟩ z1).setCell ⟨w.heap.size + 1, 1, none⟩ z2) :=
    ((Only.refl (oneF (w.heap.size + 1)) _).setCell (.inl (by show _ = _; rfl)) _).setCell (.inl (by show _ = _; rfl)) _
  have hsz : (wr.alloc o).heap.size = wr.heap.size + 1 := by simp
  rw [hsz] at hA hm
  have al := (Only.refl NoF w5).alloc o'
  have hm2 := own_only (own_keep hm al) s fun j hj h => by
    have := (hm.lt j hj).1
    unfold oneF at h
    omega
  obtain ⟨_, _, hx, _, _, q⟩ := Reads.of_own hm2
  cases hx
  refine ⟨(hB.keep p).put2 _ _, (((hA.keep al).put2 (by omega) (Nat.le_refl _) _ _).low (by omega)), ?_, ?_, ?_, (hO.trans' p).put2 (by omega) _ _, q.sup fun _ _ => trivial, by simp only [World.size_setCell]; exact Nat.le_trans hlt p.size⟩
  · exact own_only (own_keep hc p) s fun j hj h => by
      have := (hc.lt j hj).1
      unfold oneF at h
      omega
  · exact own_only (own_keep he p) s fun j hj h => by
      have := (he.lt j hj).1
      unfold oneF at h
      omega
  · intro j hj h
    obtain ⟨_, _, hx, r1, _⟩ := hA
    obtain ⟨rfl, rfl⟩ := agg2_inj hx
    have := (hc.lt j hj).2
    have := (r1.lt j h).1
    omega
end
end Go.Proofs.Ytocbfobakmieoaa
