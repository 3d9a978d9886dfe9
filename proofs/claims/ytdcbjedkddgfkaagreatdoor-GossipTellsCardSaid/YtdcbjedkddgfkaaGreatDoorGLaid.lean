/-
  What the gossip rows' listed variables give: the tables as the program lays them. No condition.
-/
import Derived.Test.YtdcbjedkddgfkaaGreatDoorRows
import Derived.Test.YtdcbjedkddgfkaaGreatDoorWBase
import Derived.Stop.LaidErr
import Derived.LaidLaws
import Derived.Lib.LaidTab
import Derived.JoinedOf
namespace Go.Proofs.YtdcbjedkddgfkaaGreatDoor
set_option linter.unusedVariables false
set_option linter.unusedSimpArgs false
set_option linter.unusedSectionVars false
open Go.RowKit
abbrev LAID : List (String × DataW Unit) := Rows.gossipTellsRow.laid
theorem gT : Tryz.prog.globalNamed "internal/strconv.uint64pow10" = some 0 := by kernel_rfl
theorem gTType : (Tryz.prog.globals[0]?).map (·.type) = some 194 := by kernel_rfl
theorem var_lt {P : Program} {w : World} {n : String} {g : Nat} {cs : Array Value} (h : w.var? P n = some cs) (hg : P.globalNamed n = some g) : g < w.heap.size := by
 unfold World.var? at h
 rw [hg] at h
 simp only [Option.bind_some] at h
 rcases Nat.lt_or_ge g w.heap.size with h' | h'
 · exact h'
 · rw [Array.getElem?_eq_none h'] at h; simp at h
theorem Gr.laid {W : World} (h : laidMet Tryz.prog LAID W) : Gr W := by
 have h2 := h.tail
 have h3 := h2.tail
 have htab : Lib.TabIs Tryz.prog W "internal/strconv.uint64pow10" .u64 Lib.pow10Tab := Lib.tabIs_of_head gT gTType Tryz.underlying194 Tryz.underlying178 (by kernel_rfl) (by kernel_rfl) h3
 refine ⟨?_, htab, trivial⟩
 obtain ⟨_, ⟨g, t, cs, fuel, p, q, hg, ht, hv, _⟩, _⟩ := h
 obtain ⟨_, ⟨g2, t2, cs2, fuel2, p2, q2, hg2, ht2, hv2, _⟩, _⟩ := h2
 obtain ⟨_, ⟨g3, t3, cs3, fuel3, p3, q3, hg3, ht3, hv3, _⟩, _⟩ := h3
 have e : g = 4 := Option.some.inj (hg.symm.trans (by kernel_rfl))
 have e2 : g2 = 5 := Option.some.inj (hg2.symm.trans (by kernel_rfl))
 have e3 : g3 = 0 := Option.some.inj (hg3.symm.trans (by kernel_rfl))
 have := var_lt hv hg
 have := var_lt hv2 hg2
 have := var_lt hv3 hg3
 omega
/-! ### one start that fits -/
def litCells : DataW Unit → Array Value
 | .agg l => (l.map fun x => match x with | .lit (.int k z) => Value.int k z | _ => Value.nilIface).toArray
 | _ => #[]
def putCells (h : Array Obj) (g : Nat) (cs : Array Value) : Array Obj := h.modify g fun
 | .cells _ t f => .cells cs t f
 | o => o
noncomputable def laidWorld (os : Os) : World :=
 let w0 := World.holding Tryz.prog os ⟨#[], #[], []⟩
 { w0 with heap := putCells (putCells (putCells w0.heap 4 (litCells Rows.laid_math_bits_deBruijn32tab)) 5 (litCells Rows.laid_math_bits_deBruijn64tab)) 0 (litCells Rows.laid_internal_strconv_uint64pow10) }
theorem laidWorld_met (os : Os) (args : Array Value) : laidMet Tryz.prog LAID ((laidWorld os).forCall (fun _ _ => 0) ⟨#[], args, []⟩).memory :=
 laidMet_of_run' 8 (by kernel_rfl) (by kernel_rfl)
end Go.Proofs.YtdcbjedkddgfkaaGreatDoor
