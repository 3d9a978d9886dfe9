/-
  What the program's steps of a read come to. No condition: plain lemmas.
-/
import Derived.Test.YtdcbjedkddgfkaaGreatDoorWBase
namespace Go.Proofs.YtdcbjedkddgfkaaGreatDoor
set_option linter.unusedVariables false
set_option linter.unusedSimpArgs false
set_option linter.unusedSectionVars false
namespace Wr
end Wr
/-! ### a reader in memory -/
theorem elemInt : ElemIs Tryz.prog 30 3 1 8 := by
 obtain ⟨i, h1, h2, h3, h4⟩ := info_parts (show (Tryz.prog.info? 3).map (fun i => (i.zero, i.size, i.bytes)) = some (some (.int .i64 0), 1, 8) by kernel_rfl)
 exact ⟨Tryz.underlying30, i, _, h1, h2, h3, h4, rfl⟩
end Go.Proofs.YtdcbjedkddgfkaaGreatDoor
