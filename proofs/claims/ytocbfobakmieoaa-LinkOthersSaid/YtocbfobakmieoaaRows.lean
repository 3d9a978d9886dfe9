/-
  No cell of these rows narrows 'for every input' (looked for: loops, veiled, ifaces, maps, wideKeys, modest, calm, conditions, laid).
  DERIVED. THE GIVEN ROWS OF THIS SEAT. 5 by the template 'for every input the law returns true; each argument reads behind the call as it read before'; 0 by the template 'total and deterministic' (their statements: YtocbfobakmieoaaTotals.lean).
  GIVEN WITH THE SEED: the statements are not yours to turn. If you find one false, say at which input.
  Laid BY PROGRAM, IN A SANDBOX (cutbox-rows.mjs): the forced cells as the released guide's own fill.sh prints them over the translation 8cb696c5a17e68e8… (all of the seat's roots in one cut). By AI agents, Wed Nov 11 2026. No macro, syntax, notation, axiom, sorry.
-/
import Derived.Test.YtocbfobakmieoaaChecked
import GoSem.Claim
import GoSem.ClaimJoined
import GoSem.ClaimMapViews
import Derived.JoinedTies
import Derived.KernelRfl
namespace Go.Proofs.Ytocbfobakmieoaa
/- THE CELL 'sum', in the pinned program and in every row, IS THE sha256 OF THE DUMP (.gsa) THAT YtocbfobakmieoaaProg.lean LOADS. Nothing in Lean hashes anything: it is a label: what it is worth is what the hold of that sum in a sandbox is worth. -/
noncomputable def Try.pinned : Pinned := { name := "ytocbfobakmieoaa", sum := "8cb696c5a17e68e8a55e4b54da7570154c114b53362f9456a458ebfedd3fbd7b", checked := Try.checked }
namespace Rows
def none {H : Type} : Left H := { results := [], args := [] }

/-- 'kitbaglaw38.LinkTells': WHATEVER THE INPUT: true; the input reads as it did. -/
def linkTellsSpec : ChangeSpec := { name := "linkTells", fn := fun _ => fun
  | [d1, d2, d3, d4, d5] => { results := [.lit (.bool true)], args := [d1, d2, d3, d4, d5] }
  | _ => none }
def linkTellsRow : OpenClaim := { program := "ytocbfobakmieoaa", sum := "8cb696c5a17e68e8a55e4b54da7570154c114b53362f9456a458ebfedd3fbd7b", func := "kitbag/kitbaglaw38.LinkTells", spec := "linkTells", inPlace := ["slices.overlaps[kitbag/api.Pair]"], unfollowed := true, recurses := true, apart := false }
def LinkTellsSaid : Prop := linkTellsRow.holds Try.pinned (OpenSpec.ofChange linkTellsSpec)

/-- ITS FALSE NEIGHBOUR: 'it returns false'. Refute it at one input. -/
def linkTellsWrong : ChangeSpec := { name := "linkTells", fn := fun _ => fun
  | [d1, d2, d3, d4, d5] => { results := [.lit (.bool false)], args := [d1, d2, d3, d4, d5] }
  | _ => none }
def LinkTellsWrongFalsely : Prop := linkTellsRow.holds Try.pinned (OpenSpec.ofChange linkTellsWrong)

/-- 'kitbaglaw38.LinkConserves': WHATEVER THE INPUT: true; the input reads as it did. -/
def linkConservesSpec : ChangeSpec := { name := "linkConserves", fn := fun _ => fun
  | [d1, d2, d3] => { results := [.lit (.bool true)], args := [d1, d2, d3] }
  | _ => none }
def linkConservesRow : OpenClaim := { program := "ytocbfobakmieoaa", sum := "8cb696c5a17e68e8a55e4b54da7570154c114b53362f9456a458ebfedd3fbd7b", func := "kitbag/kitbaglaw38.LinkConserves", spec := "linkConserves", inPlace := ["slices.overlaps[kitbag/api.Pair]"], unfollowed := true, recurses := true, apart := false }
def LinkConservesSaid : Prop := linkConservesRow.holds Try.pinned (OpenSpec.ofChange linkConservesSpec)

/-- ITS FALSE NEIGHBOUR: 'it returns false'. Refute it at one input. -/
def linkConservesWrong : ChangeSpec := { name := "linkConserves", fn := fun _ => fun
  | [d1, d2, d3] => { results := [.lit (.bool false)], args := [d1, d2, d3] }
  | _ => none }
def LinkConservesWrongFalsely : Prop := linkConservesRow.holds Try.pinned (OpenSpec.ofChange linkConservesWrong)

/-- 'kitbaglaw38.LinkCuts': WHATEVER THE INPUT: true; the input reads as it did. -/
def linkCutsSpec : ChangeSpec := { name := "linkCuts", fn := fun _ => fun
  | [d1, d2, d3, d4] => { results := [.lit (.bool true)], args := [d1, d2, d3, d4] }
  | _ => none }
def linkCutsRow : OpenClaim := { program := "ytocbfobakmieoaa", sum := "8cb696c5a17e68e8a55e4b54da7570154c114b53362f9456a458ebfedd3fbd7b", func := "kitbag/kitbaglaw38.LinkCuts", spec := "linkCuts", inPlace := ["slices.overlaps[kitbag/api.Pair]"], unfollowed := true, recurses := true, apart := false }
def LinkCutsSaid : Prop := linkCutsRow.holds Try.pinned (OpenSpec.ofChange linkCutsSpec)

/-- ITS FALSE NEIGHBOUR: 'it returns false'. Refute it at one input. -/
def linkCutsWrong : ChangeSpec := { name := "linkCuts", fn := fun _ => fun
  | [d1, d2, d3, d4] => { results := [.lit (.bool false)], args := [d1, d2, d3, d4] }
  | _ => none }
def LinkCutsWrongFalsely : Prop := linkCutsRow.holds Try.pinned (OpenSpec.ofChange linkCutsWrong)

/-- 'kitbaglaw38.LinkParts': WHATEVER THE INPUT: true; the input reads as it did. -/
def linkPartsSpec : ChangeSpec := { name := "linkParts", fn := fun _ => fun
  | [d1, d2, d3] => { results := [.lit (.bool true)], args := [d1, d2, d3] }
  | _ => none }
def linkPartsRow : OpenClaim := { program := "ytocbfobakmieoaa", sum := "8cb696c5a17e68e8a55e4b54da7570154c114b53362f9456a458ebfedd3fbd7b", func := "kitbag/kitbaglaw38.LinkParts", spec := "linkParts", inPlace := ["slices.overlaps[kitbag/api.Pair]"], unfollowed := true, recurses := true, apart := false }
def LinkPartsSaid : Prop := linkPartsRow.holds Try.pinned (OpenSpec.ofChange linkPartsSpec)

/-- ITS FALSE NEIGHBOUR: 'it returns false'. Refute it at one input. -/
def linkPartsWrong : ChangeSpec := { name := "linkParts", fn := fun _ => fun
  | [d1, d2, d3] => { results := [.lit (.bool false)], args := [d1, d2, d3] }
  | _ => none }
def LinkPartsWrongFalsely : Prop := linkPartsRow.holds Try.pinned (OpenSpec.ofChange linkPartsWrong)

/-- 'kitbaglaw38.LinkOthers': WHATEVER THE INPUT: true; the input reads as it did. -/
def linkOthersSpec : ChangeSpec := { name := "linkOthers", fn := fun _ => fun
  | [d1, d2, d3, d4] => { results := [.lit (.bool true)], args := [d1, d2, d3, d4] }
  | _ => none }
def linkOthersRow : OpenClaim := { program := "ytocbfobakmieoaa", sum := "8cb696c5a17e68e8a55e4b54da7570154c114b53362f9456a458ebfedd3fbd7b", func := "kitbag/kitbaglaw38.LinkOthers", spec := "linkOthers", inPlace := ["slices.overlaps[kitbag/api.Pair]"], unfollowed := true, recurses := true, apart := false }
def LinkOthersSaid : Prop := linkOthersRow.holds Try.pinned (OpenSpec.ofChange linkOthersSpec)

/-- ITS FALSE NEIGHBOUR: 'it returns false'. Refute it at one input. -/
def linkOthersWrong : ChangeSpec := { name := "linkOthers", fn := fun _ => fun
  | [d1, d2, d3, d4] => { results := [.lit (.bool false)], args := [d1, d2, d3, d4] }
  | _ => none }
def LinkOthersWrongFalsely : Prop := linkOthersRow.holds Try.pinned (OpenSpec.ofChange linkOthersWrong)

/- THE SECOND FORM. 'bulk': how many values and letters a reading holds, each counted each time it is reached (what is shared counts as often as it is met; a slice's spare places count too). A statement '..UptoSaid' is the law's where the arguments, and the package variables that the reading takes, are together of bulk at most 1048576: NARROWER than '..Said'. Prove '..Said' where nothing that the law and all that it calls make is longer than what came in: it says more and counts as full. Else prove '..UptoSaid'. A law counts once. -/
mutual
def uptoBulk {H : Type} : DataW H → Nat
  | .lit (.string bytes) => bytes.length + 1
  | .lit _ => 1
  | .nil => 1
  | .ptr d => uptoBulk d + 1
  | .slice elems spare => uptoBulkAll elems + uptoBulkAll spare + 1
  | .agg parts => uptoBulkAll parts + 1
  | .iface _ d => uptoBulk d + 1
  | .map entries => uptoBulkEntries entries + 1
  | .held _ => 1
def uptoBulkAll {H : Type} : List (DataW H) → Nat
  | [] => 0
  | d :: r => uptoBulk d + uptoBulkAll r
def uptoBulkEntries {H : Type} : List (Lit × DataW H) → Nat
  | [] => 0
  | x :: r => uptoBulkEntry x + uptoBulkEntries r
def uptoBulkEntry {H : Type} : Lit × DataW H → Nat
  | (.string bytes, d) => bytes.length + uptoBulk d + 1
  | (_, d) => uptoBulk d + 1
 end
def uptoSmall : (H : Type) → List (DataW H) → Bool := fun _ ds => decide (uptoBulkAll ds ≤ 1048576)
def OpenSpec.upto (s : _root_.Go.ChangeSpec) : _root_.Go.OpenSpec := { _root_.Go.OpenSpec.ofChange s with cond := some uptoSmall }

/-- 'kitbaglaw38.LinkTells', WHERE WHAT IT READS IS OF BULK AT MOST 1048576: true; the input reads as it did. -/
def linkTellsUptoRow : OpenClaim := { program := "ytocbfobakmieoaa", sum := "8cb696c5a17e68e8a55e4b54da7570154c114b53362f9456a458ebfedd3fbd7b", func := "kitbag/kitbaglaw38.LinkTells", spec := "linkTells", inPlace := ["slices.overlaps[kitbag/api.Pair]"], unfollowed := true, recurses := true, apart := false, narrowed := true }
def LinkTellsUptoSaid : Prop := linkTellsUptoRow.holds Try.pinned (OpenSpec.upto linkTellsSpec)

/-- 'kitbaglaw38.LinkConserves', WHERE WHAT IT READS IS OF BULK AT MOST 1048576: true; the input reads as it did. -/
def linkConservesUptoRow : OpenClaim := { program := "ytocbfobakmieoaa", sum := "8cb696c5a17e68e8a55e4b54da7570154c114b53362f9456a458ebfedd3fbd7b", func := "kitbag/kitbaglaw38.LinkConserves", spec := "linkConserves", inPlace := ["slices.overlaps[kitbag/api.Pair]"], unfollowed := true, recurses := true, apart := false, narrowed := true }
def LinkConservesUptoSaid : Prop := linkConservesUptoRow.holds Try.pinned (OpenSpec.upto linkConservesSpec)

/-- 'kitbaglaw38.LinkCuts', WHERE WHAT IT READS IS OF BULK AT MOST 1048576: true; the input reads as it did. -/
def linkCutsUptoRow : OpenClaim := { program := "ytocbfobakmieoaa", sum := "8cb696c5a17e68e8a55e4b54da7570154c114b53362f9456a458ebfedd3fbd7b", func := "kitbag/kitbaglaw38.LinkCuts", spec := "linkCuts", inPlace := ["slices.overlaps[kitbag/api.Pair]"], unfollowed := true, recurses := true, apart := false, narrowed := true }
def LinkCutsUptoSaid : Prop := linkCutsUptoRow.holds Try.pinned (OpenSpec.upto linkCutsSpec)

/-- 'kitbaglaw38.LinkParts', WHERE WHAT IT READS IS OF BULK AT MOST 1048576: true; the input reads as it did. -/
def linkPartsUptoRow : OpenClaim := { program := "ytocbfobakmieoaa", sum := "8cb696c5a17e68e8a55e4b54da7570154c114b53362f9456a458ebfedd3fbd7b", func := "kitbag/kitbaglaw38.LinkParts", spec := "linkParts", inPlace := ["slices.overlaps[kitbag/api.Pair]"], unfollowed := true, recurses := true, apart := false, narrowed := true }
def LinkPartsUptoSaid : Prop := linkPartsUptoRow.holds Try.pinned (OpenSpec.upto linkPartsSpec)

/-- 'kitbaglaw38.LinkOthers', WHERE WHAT IT READS IS OF BULK AT MOST 1048576: true; the input reads as it did. -/
def linkOthersUptoRow : OpenClaim := { program := "ytocbfobakmieoaa", sum := "8cb696c5a17e68e8a55e4b54da7570154c114b53362f9456a458ebfedd3fbd7b", func := "kitbag/kitbaglaw38.LinkOthers", spec := "linkOthers", inPlace := ["slices.overlaps[kitbag/api.Pair]"], unfollowed := true, recurses := true, apart := false, narrowed := true }
def LinkOthersUptoSaid : Prop := linkOthersUptoRow.holds Try.pinned (OpenSpec.upto linkOthersSpec)

end Rows
end Go.Proofs.Ytocbfobakmieoaa
