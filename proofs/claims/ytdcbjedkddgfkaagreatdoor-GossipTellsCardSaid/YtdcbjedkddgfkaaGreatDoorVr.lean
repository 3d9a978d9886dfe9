/-
  What single operations yield, each as an equation on its run. No condition beyond those that each lemma names.
-/
import Derived.Test.YtdcbjedkddgfkaaGreatDoorVc
import Derived.Laws.StructEq
namespace Go.Proofs.YtdcbjedkddgfkaaGreatDoor
set_option linter.unusedVariables false
set_option linter.unusedSimpArgs false
set_option linter.unusedSectionVars false
open Go.RowKit
/-- cells in a row -/
def CA (w : World) (p : Addr) (cs : List Value) : Prop := ∀ j u, cs[j]? = some u → w.cell? (p.add j) = some u
theorem add_zero' (p : Addr) : p.add 0 = p := by unfold Addr.add; simp
theorem CA.first {w : World} {p : Addr} {v : Value} {cs : List Value} (h : CA w p (v :: cs)) : w.cell? p = some v := by
 have := h 0 v rfl
 rwa [add_zero'] at this
/-- element k of a row -/
def eA (A : Option Addr) (size k : Nat) : Addr := (A.getD ⟨0, 0, none⟩).add (k * size)
section
variable {P : Program} {w : World} {n : Nat} {l : List (Nat × Value)} {a : Act} {dst : Option Tmp} {ty : TypeId} {pos : String} {aft : Array Edge} {g : Option (Nat × Bool)} {x y : Operand} {v u : Value}
theorem r_mv (H : Fr n l a) (hx : ev l x = some v) : (execOp a.eval ⟨dst, .move x, ty, pos, aft, g⟩).run P w = .ok (.value v) w := by simp [execOp, H.eval hx]
theorem r_as (H : Fr n l a) (hx : ev l x = some v) : (execOp a.eval ⟨dst, .assign x, ty, pos, aft, g⟩).run P w = .ok (.value v) w := by simp [execOp, H.eval hx]
theorem r_pick {c : Operand} {b : Bool} (H : Fr n l a) (hc : ev l c = some (.bool b)) (hx : ev l x = some v) (hy : ev l y = some u) : (execOp a.eval ⟨dst, .pick c x y, ty, pos, aft, g⟩).run P w = .ok (.value (if b then v else u)) w := by
 simp [execOp, H.eval hc, H.eval hx, H.eval hy, asBool]
theorem r_or {c : Operand} {b q : Bool} (H : Fr n l a) (hc : ev l c = some (.bool b)) (hx : ev l x = some (.bool true)) (hy : ev l y = some (gv (!b) (.bool q))) : (execOp a.eval ⟨dst, .pick c x y, ty, pos, aft, g⟩).run P w = .ok (.value (.bool (b || q))) w := by
 cases b <;> simp [execOp, H.eval hc, H.eval hx, H.eval hy, asBool, gv]
theorem r_and {c : Operand} {b q : Bool} (H : Fr n l a) (hc : ev l c = some (.bool b)) (hx : ev l x = some (gv b (.bool q))) (hy : ev l y = some (.bool false)) : (execOp a.eval ⟨dst, .pick c x y, ty, pos, aft, g⟩).run P w = .ok (.value (.bool (b && q))) w := by
 cases b <;> simp [execOp, H.eval hc, H.eval hx, H.eval hy, asBool, gv]
theorem r_ex {i : Nat} {vs : List Value} (H : Fr n l a) (hx : ev l x = some (.tuple vs.toArray)) (hi : vs[i]? = some v) : (execOp a.eval ⟨dst, .extract x i, ty, pos, aft, g⟩).run P w = .ok (.value v) w := by
 simp [execOp, H.eval hx, Instr.extract, hi]
theorem r_nilP {p : Addr} (H : Fr n l a) (hx : ev l x = some (.pointer (some p))) : (execOp a.eval ⟨dst, .nilCheck x, ty, pos, aft, g⟩).run P w = .ok (.value (.pointer (some p))) w := by
 simp [execOp, H.eval hx]
/-! ### memory -/
theorem run_loadFrom {p : Addr} : ∀ (m i : Nat) (cs : List Value) (acc : Array Value), cs.length = m → (∀ j u, cs[j]? = some u → w.cell? (p.add (i + j)) = some u) → (loadCellsFrom p i m acc).run P w = .ok (acc ++ cs.toArray) w
 | 0, i, cs, acc, hl, _ => by obtain rfl := List.eq_nil_of_length_eq_zero hl; simp [loadCellsFrom]
 | m + 1, i, [], acc, hl, _ => by simp at hl
 | m + 1, i, c :: cs, acc, hl, h => by
  have h0 : w.cell? (p.add i) = some c := h 0 c rfl
  have := run_loadFrom (p := p) m (i + 1) cs (acc.push c) (by simpa using hl) fun j u hu => by
   have := h (j + 1) u (by simpa using hu)
   rwa [show i + (j + 1) = i + 1 + j by omega] at this
  simp only [loadCellsFrom, load, Sem.run_bind, Sem.run, h0, Result.andThen_ok, this]
  congr 1
  apply Array.ext'
  simp
theorem r_ldA {t : TypeId} {m : Nat} {p : Addr} {cs : List Value} (hA : ∀ w, (isAgg t).run P w = .ok true w) (hS : ∀ w, (sizeOf t).run P w = .ok m w) (H : Fr n l a) (hx : ev l x = some (.pointer (some p))) (hc : CA w p cs) (hm : (cs.length == m) = true) :
 (execOp a.eval ⟨dst, .load t x, ty, pos, aft, g⟩).run P w = .ok (.value (.agg cs.toArray)) w := by
 have := run_loadFrom (P := P) (w := w) (p := p) m 0 cs #[] (beq_iff_eq.1 hm) (fun j u hu => by rw [Nat.zero_add]; exact hc j u hu)
 simp [execOp, H.eval hx, Instr.loadAt, Instr.sureAddr, loadVar, hA, hS, loadCells, this]
theorem r_ld {t : TypeId} {p : Addr} (hA : ∀ w, (isAgg t).run P w = .ok false w) (H : Fr n l a) (hx : ev l x = some (.pointer (some p))) (hc : w.cell? p = some v) :
 (execOp a.eval ⟨dst, .load t x, ty, pos, aft, g⟩).run P w = .ok (.value v) w := by
 simp [execOp, H.eval hx, Instr.loadAt, Instr.sureAddr, loadVar, hA, load, Sem.run, hc]
theorem r_fa {t f : Nat} {m m' : Nat} {fs : Array Field} {fd : Field} {p : Addr} (hu : P.underlying t = some (.struct fs)) (hf : fs[f]? = some fd) (hs : ∀ w, (sizeOf fd.type).run P w = .ok m w) (hm : Nat.blt 0 m = true) (H : Fr n l a) (hx : ev l x = some (.pointer (some p))) (ho : fd.offset = m') :
 (execOp a.eval ⟨dst, .fieldAddr t x f, ty, pos, aft, g⟩).run P w = .ok (.value (.pointer (some (p.add m')))) w := by
 have h0 : ¬ m = 0 := by have : 0 < m := by simpa [Nat.blt_eq] using hm
                         omega
 simp [execOp, H.eval hx, Instr.fieldAt, run_underlying hu, hf, Instr.sureAddr, fieldPlace, hs, h0, ho]
theorem r_ia {t e : TypeId} {size : Nat} {A : Option Addr} {len cap k : Nat} (hu : P.underlying t = some (.slice e)) (hs : ∀ w, (sizeOf e).run P w = .ok size w) (H : Fr n l a) (hx : ev l x = some (.slice A len cap)) {kk : IntKind} {z : Int} (hy : ev l y = some (.int kk z)) (hz : z = (k : Int)) (hk : k < len) (hA : A.isSome = true) :
 (execOp a.eval ⟨dst, .indexAddr t x y, ty, pos, aft, g⟩).run P w = .ok (.value (.pointer (some (eA A size k)))) w := by
 obtain ⟨p, rfl⟩ := Option.isSome_iff_exists.1 hA
 subst hz
 simp [execOp, H.eval hx, H.eval hy, Instr.indexAt, asIntOf, run_underlying hu, hs, hk, eA]
theorem r_box {e : TypeId} {cs : List Value} (H : Fr n l a) (hx : ev l x = some v) (hv : v.cells = cs.toArray) :
 (execOp a.eval ⟨dst, .box e x, ty, pos, aft, g⟩).run P w = .ok (.value (.pointer (some ⟨w.heap.size, 0, none⟩))) (w.alloc (.cells cs.toArray e)) := by
 have h : (Instr.box e v).run P w = .ok (.pointer (some ⟨w.heap.size, 0, none⟩)) (w.alloc (.cells cs.toArray e)) := by
  unfold Instr.box newVar newRow newObj
  rw [hv]
  rfl
 simp only [execOp, H.eval hx, Sem.run_bind, h, Result.andThen_ok, Sem.run_pure]
theorem r_al {e : TypeId} {cs : List Value} (hz : ∀ w, (zeroValue e).run P w = .ok v w) (hv : v.cells = cs.toArray) :
 (execOp a.eval ⟨dst, .alloc e, ty, pos, aft, g⟩).run P w = .ok (.value (.pointer (some ⟨w.heap.size, 0, none⟩))) (w.alloc (.cells cs.toArray e)) := by
 have h : (Instr.alloc e true (.tuple #[])).run P w = .ok (.pointer (some ⟨w.heap.size, 0, none⟩)) (w.alloc (.cells cs.toArray e)) := by
  unfold Instr.alloc newVar newRow newObj
  simp only [Sem.run_bind, hz, Result.andThen_ok, hv]
  rfl
 simp only [execOp, Sem.run_bind, h, Result.andThen_ok, Sem.run_pure]
/-! ### integers, bools, strings -/
theorem r_eqI {k : IntKind} {p q : Int} {t yt : TypeId} (H : Fr n l a) (hx : ev l x = some (.int k p)) (hy : ev l y = some (.int k q)) : (execOp a.eval ⟨dst, .binOp .eql t x y yt, ty, pos, aft, g⟩).run P w = .ok (.value (.bool (decide (p = q)))) w := by
 have : (p == q) = decide (p = q) := by by_cases h : p = q <;> simp [h]
 simp [execOp, H.eval hx, H.eval hy, eqGuard, binOp, Op.intCmp, this]
theorem r_neI {k : IntKind} {p q : Int} {t yt : TypeId} (H : Fr n l a) (hx : ev l x = some (.int k p)) (hy : ev l y = some (.int k q)) : (execOp a.eval ⟨dst, .binOp .neq t x y yt, ty, pos, aft, g⟩).run P w = .ok (.value (.bool (!decide (p = q)))) w := by
 have : (p != q) = !decide (p = q) := by by_cases h : p = q <;> simp [h]
 simp [execOp, H.eval hx, H.eval hy, eqGuard, binOp, Op.intCmp, this]
theorem r_ltI {k : IntKind} {p q : Int} {t yt : TypeId} (H : Fr n l a) (hx : ev l x = some (.int k p)) (hy : ev l y = some (.int k q)) : (execOp a.eval ⟨dst, .binOp .lss t x y yt, ty, pos, aft, g⟩).run P w = .ok (.value (.bool (decide (p < q)))) w := by
 simp [execOp, H.eval hx, H.eval hy, eqGuard, binOp, Op.intCmp]
theorem r_leI {k : IntKind} {p q : Int} {t yt : TypeId} (H : Fr n l a) (hx : ev l x = some (.int k p)) (hy : ev l y = some (.int k q)) : (execOp a.eval ⟨dst, .binOp .leq t x y yt, ty, pos, aft, g⟩).run P w = .ok (.value (.bool (decide (p ≤ q)))) w := by
 simp [execOp, H.eval hx, H.eval hy, eqGuard, binOp, Op.intCmp]
theorem r_gtI {k : IntKind} {p q : Int} {t yt : TypeId} (H : Fr n l a) (hx : ev l x = some (.int k p)) (hy : ev l y = some (.int k q)) : (execOp a.eval ⟨dst, .binOp .gtr t x y yt, ty, pos, aft, g⟩).run P w = .ok (.value (.bool (decide (q < p)))) w := by
 simp [execOp, H.eval hx, H.eval hy, eqGuard, binOp, Op.intCmp]
theorem r_geI {k : IntKind} {p q : Int} {t yt : TypeId} (H : Fr n l a) (hx : ev l x = some (.int k p)) (hy : ev l y = some (.int k q)) : (execOp a.eval ⟨dst, .binOp .geq t x y yt, ty, pos, aft, g⟩).run P w = .ok (.value (.bool (decide (q ≤ p)))) w := by
 simp [execOp, H.eval hx, H.eval hy, eqGuard, binOp, Op.intCmp]
theorem r_addI {p q r : Int} {t yt : TypeId} (H : Fr n l a) (hx : ev l x = some (.int .i64 p)) (hy : ev l y = some (.int .i64 q)) (hr : r = p + q) (hb : I64 r) : (execOp a.eval ⟨dst, .binOp .add t x y yt, ty, pos, aft, g⟩).run P w = .ok (.value (.int .i64 r)) w := by
 have : IntKind.i64.wrap (p + q) = r := by rw [← hr]; exact IntWalk.i64_in _ hb
 simp [execOp, H.eval hx, H.eval hy, eqGuard, binOp, Op.intArith, this]
theorem r_subI {p q r : Int} {t yt : TypeId} (H : Fr n l a) (hx : ev l x = some (.int .i64 p)) (hy : ev l y = some (.int .i64 q)) (hr : r = p - q) (hb : I64 r) : (execOp a.eval ⟨dst, .binOp .sub t x y yt, ty, pos, aft, g⟩).run P w = .ok (.value (.int .i64 r)) w := by
 have : IntKind.i64.wrap (p - q) = r := by rw [← hr]; exact IntWalk.i64_in _ hb
 simp [execOp, H.eval hx, H.eval hy, eqGuard, binOp, Op.intArith, this]
theorem r_not {b : Bool} {t : TypeId} (H : Fr n l a) (hx : ev l x = some (.bool b)) : (execOp a.eval ⟨dst, .unOp .not t x, ty, pos, aft, g⟩).run P w = .ok (.value (.bool (!b))) w := by
 simp [execOp, H.eval hx, Op.unary]
theorem r_neg {p r : Int} {t : TypeId} (H : Fr n l a) (hx : ev l x = some (.int .i64 p)) (hr : r = -p) (hb : I64 r) : (execOp a.eval ⟨dst, .unOp .neg t x, ty, pos, aft, g⟩).run P w = .ok (.value (.int .i64 r)) w := by
 have : IntKind.i64.wrap (-p) = r := by rw [← hr]; exact IntWalk.i64_in _ hb
 simp [execOp, H.eval hx, Op.unary, Op.intArith, this]
theorem toList_strV (s : Str) : (ByteArray.mk s.toArray).toList = s := by
 exact ByteArray.toList_mk s
theorem r_eqS {s s' : Str} {t yt : TypeId} (H : Fr n l a) (hx : ev l x = some (strV s)) (hy : ev l y = some (strV s')) : (execOp a.eval ⟨dst, .binOp .eql t x y yt, ty, pos, aft, g⟩).run P w = .ok (.value (.bool (decide (s = s')))) w := by
 have : (s == s') = decide (s = s') := by by_cases h : s = s' <;> simp [h]
 simp [execOp, H.eval hx, H.eval hy, eqGuard, binOp, Op.stringOp, toList_strV, this]
theorem r_neS {s s' : Str} {t yt : TypeId} (H : Fr n l a) (hx : ev l x = some (strV s)) (hy : ev l y = some (strV s')) : (execOp a.eval ⟨dst, .binOp .neq t x y yt, ty, pos, aft, g⟩).run P w = .ok (.value (.bool (!decide (s = s')))) w := by
 have : (s == s') = decide (s = s') := by by_cases h : s = s' <;> simp [h]
 simp [execOp, H.eval hx, H.eval hy, eqGuard, binOp, Op.stringOp, toList_strV, this]
theorem r_addS {s s' : Str} {t yt : TypeId} (H : Fr n l a) (hx : ev l x = some (strV s)) (hy : ev l y = some (strV s')) (hb : s.length + s'.length ≤ 9223372036854775807) : (execOp a.eval ⟨dst, .binOp .add t x y yt, ty, pos, aft, g⟩).run P w = .ok (.value (strV (s ++ s'))) w := by
 have h0 : IntKind.i64.max = 9223372036854775807 := rfl
 have e1 : (ByteArray.mk s.toArray).size = s.length := rfl
 have e2 : (ByteArray.mk s'.toArray).size = s'.length := rfl
 have h1 : ¬ (((ByteArray.mk s.toArray).size + (ByteArray.mk s'.toArray).size : Nat) : Int) > IntKind.i64.max := by rw [e1, e2, h0]; omega
 have h : (Op.stringOp .add (ByteArray.mk s.toArray) (ByteArray.mk s'.toArray)).run P w = .ok (strV (s ++ s')) w := by
  unfold Op.stringOp
  simp only [h1, if_false, append_mk]
  rfl
 have hg : (eqGuard .add t x y (strV s) (strV s')).run P w = .ok () w := by simp [eqGuard]
 have hb2 : binOp .add t (strV s) (strV s') = Op.stringOp .add (ByteArray.mk s.toArray) (ByteArray.mk s'.toArray) := rfl
 simp only [execOp, H.eval hx, H.eval hy, Sem.run_bind, hg, hb2, h, Result.andThen_ok, Sem.run_pure]
theorem r_neA {t yt : TypeId} {c d : Array Value} {b : Bool} (hg : P.eqGuardType P.depth t = false) (he : ∀ w, (binOp .neq t (.agg c) (.agg d)).run P w = .ok (.bool b) w) (H : Fr n l a) (hx : ev l x = some (.agg c)) (hy : ev l y = some (.agg d)) :
 (execOp a.eval ⟨dst, .binOp .neq t x y yt, ty, pos, aft, g⟩).run P w = .ok (.value (.bool b)) w := by
 have := run_eqGuard_agg (P := P) w .neq t x y c d hg
 simp only [execOp, H.eval hx, H.eval hy, Sem.run_bind, this, Result.andThen_ok, he, Sem.run_pure]
/-! ### builtins -/
theorem r_lenL {t e : TypeId} {A : Option Addr} {len cap : Nat} (hu : P.underlying t = some (.slice e)) (H : Fr n l a) (hx : ev l x = some (.slice A len cap)) : (execOp a.eval ⟨dst, .call { callee := .builtin .len, args := #[x], argTypes := #[t] }, ty, pos, aft, g⟩).run P w = .ok (.value (.int .i64 (len : Int))) w := by
 simp [execOp, resolve, invoke, builtin, Builtin.len_, H.eval hx, run_underlying hu, goInt]
theorem r_lenS {t : TypeId} {s : Str} (hu : P.underlying t = some .string) (H : Fr n l a) (hx : ev l x = some (strV s)) : (execOp a.eval ⟨dst, .call { callee := .builtin .len, args := #[x], argTypes := #[t] }, ty, pos, aft, g⟩).run P w = .ok (.value (.int .i64 (s.length : Int))) w := by
 have e1 : (ByteArray.mk s.toArray).size = s.length := rfl
 simp only [execOp, resolve, invoke, builtin, Builtin.len_, List.map_toArray, List.map_cons, List.map_nil, H.eval hx, List.getElem?_toArray, List.getElem?_cons_zero, Sem.run_bind, run_underlying hu, Result.andThen_ok, Sem.run_pure, goInt, e1]
/-! ### slices of slices and of strings -/
/-- where 's[lo:]' begins -/
def slA (A : Option Addr) (cap lo size : Nat) : Option Addr := if cap = lo then A else A.map (·.add (lo * size))
theorem r_slh {t e : TypeId} {size len cap m : Nat} {A : Option Addr} {xh : Operand} {zh : Int} (hu : P.underlying t = some (.slice e)) (hs : ∀ w, (sizeOf e).run P w = .ok size w) (H : Fr n l a) (hx : ev l x = some (.slice A len cap)) (hh : ev l xh = some (.int .i64 zh))
 (hz2 : zh = (m : Int)) (hle : m ≤ cap) :
 (execOp a.eval ⟨dst, .slice t x none (some xh) none, ty, pos, aft, g⟩).run P w = .ok (.value (.slice (slA A cap 0 size) m cap)) w := by
 subst hz2
 have h1 : (0 : Int) ≤ (m : Int) ∧ (m : Int) ≤ (cap : Int) := by omega
 have hb : (Instr.sliceBounds true len cap none (some (.int .i64 (m : Int))) none).run P w = .ok (0, m, cap) w := by
  have e1 : (Instr.sliceBound (.int .i64 (m : Int)) cap .sliceAcap).run P w = .ok m w := by
   unfold Instr.sliceBound
   simp only [asIntOf, Sem.run_bind, Sem.run_pure, Result.andThen_ok, if_pos h1, Int.toNat_natCast]
  simp [Instr.sliceBounds, e1]
 have hr : (Instr.sliceAt t (.slice A len cap) none (some (.int .i64 (m : Int))) none).run P w = .ok (.slice (slA A cap 0 size) m cap) w := by
  simp only [Instr.sliceAt, Instr.slice, Sem.run_bind, run_underlying hu, Result.andThen_ok, hb, hs, Sem.run_pure, Nat.sub_zero, slA]
 simp only [execOp, Option.map_some, Option.map_none, H.eval hx, H.eval hh, Sem.run_bind, hr, Result.andThen_ok, Sem.run_pure]
theorem r_sll {t e : TypeId} {size len cap lo : Nat} {A : Option Addr} {xl : Operand} {zl : Int} (hu : P.underlying t = some (.slice e)) (hs : ∀ w, (sizeOf e).run P w = .ok size w) (H : Fr n l a) (hx : ev l x = some (.slice A len cap)) (hl : ev l xl = some (.int .i64 zl))
 (hz : zl = (lo : Int)) (hle : lo ≤ len) :
 (execOp a.eval ⟨dst, .slice t x (some xl) none none, ty, pos, aft, g⟩).run P w = .ok (.value (.slice (slA A cap lo size) (len - lo) (cap - lo))) w := by
 subst hz
 have h2 : (0 : Int) ≤ (lo : Int) ∧ (lo : Int) ≤ (len : Int) := by omega
 have hb : (Instr.sliceBounds true len cap (some (.int .i64 (lo : Int))) none none).run P w = .ok (lo, len, cap) w := by
  have e2 : (Instr.sliceBound (.int .i64 (lo : Int)) len .sliceB).run P w = .ok lo w := by
   unfold Instr.sliceBound
   simp only [asIntOf, Sem.run_bind, Sem.run_pure, Result.andThen_ok, if_pos h2, Int.toNat_natCast]
  simp [Instr.sliceBounds, e2]
 have hr : (Instr.sliceAt t (.slice A len cap) (some (.int .i64 (lo : Int))) none none).run P w = .ok (.slice (slA A cap lo size) (len - lo) (cap - lo)) w := by
  simp only [Instr.sliceAt, Instr.slice, Sem.run_bind, run_underlying hu, Result.andThen_ok, hb, hs, Sem.run_pure, slA]
 simp only [execOp, Option.map_some, Option.map_none, H.eval hx, H.eval hl, Sem.run_bind, hr, Result.andThen_ok, Sem.run_pure]
end
end Go.Proofs.YtdcbjedkddgfkaaGreatDoor
