/-
  No cell of these rows narrows 'for every input' (looked for: loops, veiled, ifaces, maps, wideKeys, modest, calm, conditions, laid).
  DERIVED. THE GIVEN ROWS OF THIS SEAT. 10 by the template 'for every input the law returns true; each argument reads behind the call as it read before'; 0 by the template 'total and deterministic' (their statements: YtaolgnmpgnamnaaTotals.lean).
  GIVEN WITH THE SEED: the statements are not yours to turn. If you find one false, say at which input.
  Laid BY PROGRAM, IN A SANDBOX (cutbox-rows.mjs): the forced cells as the released guide's own fill.sh prints them over the translation 70223db64830e38a… (all of the seat's roots in one cut). By AI agents, Wed Nov 11 2026. No macro, syntax, notation, axiom, sorry.
-/
import Derived.Test.YtaolgnmpgnamnaaChecked
import GoSem.Claim
import GoSem.ClaimJoined
import GoSem.ClaimMapViews
import Derived.JoinedTies
import Derived.KernelRfl
namespace Go.Proofs.Ytaolgnmpgnamnaa
/- THE CELL 'sum', in the pinned program and in every row, IS THE sha256 OF THE DUMP (.gsa) THAT YtaolgnmpgnamnaaProg.lean LOADS. Nothing in Lean hashes anything: it is a label: what it is worth is what the hold of that sum in a sandbox is worth. -/
noncomputable def Try.pinned : Pinned := { name := "ytaolgnmpgnamnaa", sum := "70223db64830e38a7a95ea7769c9669a7be0e07a0e43c93a02b75024ef498d8c", checked := Try.checked }
namespace Rows
def none {H : Type} : Left H := { results := [], args := [] }

/-- 'kitbaglaw36.TreeTells': WHATEVER THE INPUT: true; the input reads as it did. -/
def treeTellsSpec : ChangeSpec := { name := "treeTells", fn := fun _ => fun
  | [d1, d2, d3, d4, d5, d6, d7, d8, d9, d10] => { results := [.lit (.bool true)], args := [d1, d2, d3, d4, d5, d6, d7, d8, d9, d10] }
  | _ => none }
def treeTellsRow : OpenClaim := { program := "ytaolgnmpgnamnaa", sum := "70223db64830e38a7a95ea7769c9669a7be0e07a0e43c93a02b75024ef498d8c", func := "kitbag/kitbaglaw36.TreeTells", spec := "treeTells", apart := false }
def TreeTellsSaid : Prop := treeTellsRow.holds Try.pinned (OpenSpec.ofChange treeTellsSpec)

/-- ITS FALSE NEIGHBOUR: 'it returns false'. Refute it at one input. -/
def treeTellsWrong : ChangeSpec := { name := "treeTells", fn := fun _ => fun
  | [d1, d2, d3, d4, d5, d6, d7, d8, d9, d10] => { results := [.lit (.bool false)], args := [d1, d2, d3, d4, d5, d6, d7, d8, d9, d10] }
  | _ => none }
def TreeTellsWrongFalsely : Prop := treeTellsRow.holds Try.pinned (OpenSpec.ofChange treeTellsWrong)

/-- 'kitbaglaw36.TreeWhole': WHATEVER THE INPUT: true; the input reads as it did. -/
def treeWholeSpec : ChangeSpec := { name := "treeWhole", fn := fun _ => fun
  | [d1, d2, d3, d4, d5, d6] => { results := [.lit (.bool true)], args := [d1, d2, d3, d4, d5, d6] }
  | _ => none }
def treeWholeRow : OpenClaim := { program := "ytaolgnmpgnamnaa", sum := "70223db64830e38a7a95ea7769c9669a7be0e07a0e43c93a02b75024ef498d8c", func := "kitbag/kitbaglaw36.TreeWhole", spec := "treeWhole", apart := false }
def TreeWholeSaid : Prop := treeWholeRow.holds Try.pinned (OpenSpec.ofChange treeWholeSpec)

/-- ITS FALSE NEIGHBOUR: 'it returns false'. Refute it at one input. -/
def treeWholeWrong : ChangeSpec := { name := "treeWhole", fn := fun _ => fun
  | [d1, d2, d3, d4, d5, d6] => { results := [.lit (.bool false)], args := [d1, d2, d3, d4, d5, d6] }
  | _ => none }
def TreeWholeWrongFalsely : Prop := treeWholeRow.holds Try.pinned (OpenSpec.ofChange treeWholeWrong)

/-- 'kitbaglaw36.TreeBounds': WHATEVER THE INPUT: true; the input reads as it did. -/
def treeBoundsSpec : ChangeSpec := { name := "treeBounds", fn := fun _ => fun
  | [d1, d2, d3, d4, d5, d6, d7, d8, d9, d10] => { results := [.lit (.bool true)], args := [d1, d2, d3, d4, d5, d6, d7, d8, d9, d10] }
  | _ => none }
def treeBoundsRow : OpenClaim := { program := "ytaolgnmpgnamnaa", sum := "70223db64830e38a7a95ea7769c9669a7be0e07a0e43c93a02b75024ef498d8c", func := "kitbag/kitbaglaw36.TreeBounds", spec := "treeBounds", apart := false }
def TreeBoundsSaid : Prop := treeBoundsRow.holds Try.pinned (OpenSpec.ofChange treeBoundsSpec)

/-- ITS FALSE NEIGHBOUR: 'it returns false'. Refute it at one input. -/
def treeBoundsWrong : ChangeSpec := { name := "treeBounds", fn := fun _ => fun
  | [d1, d2, d3, d4, d5, d6, d7, d8, d9, d10] => { results := [.lit (.bool false)], args := [d1, d2, d3, d4, d5, d6, d7, d8, d9, d10] }
  | _ => none }
def TreeBoundsWrongFalsely : Prop := treeBoundsRow.holds Try.pinned (OpenSpec.ofChange treeBoundsWrong)

/-- 'kitbaglaw36.TreePaths': WHATEVER THE INPUT: true; the input reads as it did. -/
def treePathsSpec : ChangeSpec := { name := "treePaths", fn := fun _ => fun
  | [d1, d2, d3] => { results := [.lit (.bool true)], args := [d1, d2, d3] }
  | _ => none }
def treePathsRow : OpenClaim := { program := "ytaolgnmpgnamnaa", sum := "70223db64830e38a7a95ea7769c9669a7be0e07a0e43c93a02b75024ef498d8c", func := "kitbag/kitbaglaw36.TreePaths", spec := "treePaths", apart := false }
def TreePathsSaid : Prop := treePathsRow.holds Try.pinned (OpenSpec.ofChange treePathsSpec)

/-- ITS FALSE NEIGHBOUR: 'it returns false'. Refute it at one input. -/
def treePathsWrong : ChangeSpec := { name := "treePaths", fn := fun _ => fun
  | [d1, d2, d3] => { results := [.lit (.bool false)], args := [d1, d2, d3] }
  | _ => none }
def TreePathsWrongFalsely : Prop := treePathsRow.holds Try.pinned (OpenSpec.ofChange treePathsWrong)

/-- 'kitbaglaw36.TreeHides': WHATEVER THE INPUT: true; the input reads as it did. -/
def treeHidesSpec : ChangeSpec := { name := "treeHides", fn := fun _ => fun
  | [d1, d2, d3, d4, d5, d6, d7, d8] => { results := [.lit (.bool true)], args := [d1, d2, d3, d4, d5, d6, d7, d8] }
  | _ => none }
def treeHidesRow : OpenClaim := { program := "ytaolgnmpgnamnaa", sum := "70223db64830e38a7a95ea7769c9669a7be0e07a0e43c93a02b75024ef498d8c", func := "kitbag/kitbaglaw36.TreeHides", spec := "treeHides", apart := false }
def TreeHidesSaid : Prop := treeHidesRow.holds Try.pinned (OpenSpec.ofChange treeHidesSpec)

/-- ITS FALSE NEIGHBOUR: 'it returns false'. Refute it at one input. -/
def treeHidesWrong : ChangeSpec := { name := "treeHides", fn := fun _ => fun
  | [d1, d2, d3, d4, d5, d6, d7, d8] => { results := [.lit (.bool false)], args := [d1, d2, d3, d4, d5, d6, d7, d8] }
  | _ => none }
def TreeHidesWrongFalsely : Prop := treeHidesRow.holds Try.pinned (OpenSpec.ofChange treeHidesWrong)

/-- 'kitbaglaw49.RevealTells': WHATEVER THE INPUT: true; the input reads as it did. -/
def revealTellsSpec : ChangeSpec := { name := "revealTells", fn := fun _ => fun
  | [d1, d2, d3, d4, d5, d6, d7] => { results := [.lit (.bool true)], args := [d1, d2, d3, d4, d5, d6, d7] }
  | _ => none }
def revealTellsRow : OpenClaim := { program := "ytaolgnmpgnamnaa", sum := "70223db64830e38a7a95ea7769c9669a7be0e07a0e43c93a02b75024ef498d8c", func := "kitbag/kitbaglaw49.RevealTells", spec := "revealTells", apart := false }
def RevealTellsSaid : Prop := revealTellsRow.holds Try.pinned (OpenSpec.ofChange revealTellsSpec)

/-- ITS FALSE NEIGHBOUR: 'it returns false'. Refute it at one input. -/
def revealTellsWrong : ChangeSpec := { name := "revealTells", fn := fun _ => fun
  | [d1, d2, d3, d4, d5, d6, d7] => { results := [.lit (.bool false)], args := [d1, d2, d3, d4, d5, d6, d7] }
  | _ => none }
def RevealTellsWrongFalsely : Prop := revealTellsRow.holds Try.pinned (OpenSpec.ofChange revealTellsWrong)

/-- 'kitbaglaw49.RevealShows': WHATEVER THE INPUT: true; the input reads as it did. -/
def revealShowsSpec : ChangeSpec := { name := "revealShows", fn := fun _ => fun
  | [d1, d2, d3, d4, d5] => { results := [.lit (.bool true)], args := [d1, d2, d3, d4, d5] }
  | _ => none }
def revealShowsRow : OpenClaim := { program := "ytaolgnmpgnamnaa", sum := "70223db64830e38a7a95ea7769c9669a7be0e07a0e43c93a02b75024ef498d8c", func := "kitbag/kitbaglaw49.RevealShows", spec := "revealShows", apart := false }
def RevealShowsSaid : Prop := revealShowsRow.holds Try.pinned (OpenSpec.ofChange revealShowsSpec)

/-- ITS FALSE NEIGHBOUR: 'it returns false'. Refute it at one input. -/
def revealShowsWrong : ChangeSpec := { name := "revealShows", fn := fun _ => fun
  | [d1, d2, d3, d4, d5] => { results := [.lit (.bool false)], args := [d1, d2, d3, d4, d5] }
  | _ => none }
def RevealShowsWrongFalsely : Prop := revealShowsRow.holds Try.pinned (OpenSpec.ofChange revealShowsWrong)

/-- 'kitbaglaw49.RevealAgrees': WHATEVER THE INPUT: true; the input reads as it did. -/
def revealAgreesSpec : ChangeSpec := { name := "revealAgrees", fn := fun _ => fun
  | [d1, d2, d3, d4, d5, d6, d7] => { results := [.lit (.bool true)], args := [d1, d2, d3, d4, d5, d6, d7] }
  | _ => none }
def revealAgreesRow : OpenClaim := { program := "ytaolgnmpgnamnaa", sum := "70223db64830e38a7a95ea7769c9669a7be0e07a0e43c93a02b75024ef498d8c", func := "kitbag/kitbaglaw49.RevealAgrees", spec := "revealAgrees", apart := false }
def RevealAgreesSaid : Prop := revealAgreesRow.holds Try.pinned (OpenSpec.ofChange revealAgreesSpec)

/-- ITS FALSE NEIGHBOUR: 'it returns false'. Refute it at one input. -/
def revealAgreesWrong : ChangeSpec := { name := "revealAgrees", fn := fun _ => fun
  | [d1, d2, d3, d4, d5, d6, d7] => { results := [.lit (.bool false)], args := [d1, d2, d3, d4, d5, d6, d7] }
  | _ => none }
def RevealAgreesWrongFalsely : Prop := revealAgreesRow.holds Try.pinned (OpenSpec.ofChange revealAgreesWrong)

/-- 'kitbaglaw49.RevealHides': WHATEVER THE INPUT: true; the input reads as it did. -/
def revealHidesSpec : ChangeSpec := { name := "revealHides", fn := fun _ => fun
  | [d1, d2, d3, d4, d5, d6, d7, d8] => { results := [.lit (.bool true)], args := [d1, d2, d3, d4, d5, d6, d7, d8] }
  | _ => none }
def revealHidesRow : OpenClaim := { program := "ytaolgnmpgnamnaa", sum := "70223db64830e38a7a95ea7769c9669a7be0e07a0e43c93a02b75024ef498d8c", func := "kitbag/kitbaglaw49.RevealHides", spec := "revealHides", apart := false }
def RevealHidesSaid : Prop := revealHidesRow.holds Try.pinned (OpenSpec.ofChange revealHidesSpec)

/-- ITS FALSE NEIGHBOUR: 'it returns false'. Refute it at one input. -/
def revealHidesWrong : ChangeSpec := { name := "revealHides", fn := fun _ => fun
  | [d1, d2, d3, d4, d5, d6, d7, d8] => { results := [.lit (.bool false)], args := [d1, d2, d3, d4, d5, d6, d7, d8] }
  | _ => none }
def RevealHidesWrongFalsely : Prop := revealHidesRow.holds Try.pinned (OpenSpec.ofChange revealHidesWrong)

/-- 'kitbaglaw49.RevealBounds': WHATEVER THE INPUT: true; the input reads as it did. -/
def revealBoundsSpec : ChangeSpec := { name := "revealBounds", fn := fun _ => fun
  | [d1, d2, d3] => { results := [.lit (.bool true)], args := [d1, d2, d3] }
  | _ => none }
def revealBoundsRow : OpenClaim := { program := "ytaolgnmpgnamnaa", sum := "70223db64830e38a7a95ea7769c9669a7be0e07a0e43c93a02b75024ef498d8c", func := "kitbag/kitbaglaw49.RevealBounds", spec := "revealBounds", apart := false }
def RevealBoundsSaid : Prop := revealBoundsRow.holds Try.pinned (OpenSpec.ofChange revealBoundsSpec)

/-- ITS FALSE NEIGHBOUR: 'it returns false'. Refute it at one input. -/
def revealBoundsWrong : ChangeSpec := { name := "revealBounds", fn := fun _ => fun
  | [d1, d2, d3] => { results := [.lit (.bool false)], args := [d1, d2, d3] }
  | _ => none }
def RevealBoundsWrongFalsely : Prop := revealBoundsRow.holds Try.pinned (OpenSpec.ofChange revealBoundsWrong)

/- THE SECOND FORM. 'bulk': how many values and letters a reading holds, each counted each time it is reached (what is shared counts as often as it is met; a slice's spare places count too). A statement '..UptoSaid' is the law's where the arguments, and the package variables that the reading takes, are together of bulk at most 1048576: NARROWER than '..Said'. Prove '..Said' where nothing that the law and all that it calls make is longer than what came in: it says more and counts as full. Else prove '..UptoSaid'. A law counts once. -/
mutual
def uptoBulk {H : Type} : DataW H → Nat
  | .lit (.string bytes) => bytes.length + 1
  | .lit _ => 1
  | .nil => 1
  | .ptr d => uptoBulk d + 1
  | .slice elems spare => uptoBulkAll elems + uptoBulkAll spare + 1
  | .agg parts => uptoBulkAll parts + 1
  | .iface _ d => uptoBulk d + 1
  | .map entries => uptoBulkEntries entries + 1
  | .held _ => 1
def uptoBulkAll {H : Type} : List (DataW H) → Nat
  | [] => 0
  | d :: r => uptoBulk d + uptoBulkAll r
def uptoBulkEntries {H : Type} : List (Lit × DataW H) → Nat
  | [] => 0
  | x :: r => uptoBulkEntry x + uptoBulkEntries r
def uptoBulkEntry {H : Type} : Lit × DataW H → Nat
  | (.string bytes, d) => bytes.length + uptoBulk d + 1
  | (_, d) => uptoBulk d + 1
 end
def uptoSmall : (H : Type) → List (DataW H) → Bool := fun _ ds => decide (uptoBulkAll ds ≤ 1048576)
def OpenSpec.upto (s : _root_.Go.ChangeSpec) : _root_.Go.OpenSpec := { _root_.Go.OpenSpec.ofChange s with cond := some uptoSmall }

/-- 'kitbaglaw36.TreeTells', WHERE WHAT IT READS IS OF BULK AT MOST 1048576: true; the input reads as it did. -/
def treeTellsUptoRow : OpenClaim := { program := "ytaolgnmpgnamnaa", sum := "70223db64830e38a7a95ea7769c9669a7be0e07a0e43c93a02b75024ef498d8c", func := "kitbag/kitbaglaw36.TreeTells", spec := "treeTells", apart := false, narrowed := true }
def TreeTellsUptoSaid : Prop := treeTellsUptoRow.holds Try.pinned (OpenSpec.upto treeTellsSpec)

/-- 'kitbaglaw36.TreeWhole', WHERE WHAT IT READS IS OF BULK AT MOST 1048576: true; the input reads as it did. -/
def treeWholeUptoRow : OpenClaim := { program := "ytaolgnmpgnamnaa", sum := "70223db64830e38a7a95ea7769c9669a7be0e07a0e43c93a02b75024ef498d8c", func := "kitbag/kitbaglaw36.TreeWhole", spec := "treeWhole", apart := false, narrowed := true }
def TreeWholeUptoSaid : Prop := treeWholeUptoRow.holds Try.pinned (OpenSpec.upto treeWholeSpec)

/-- 'kitbaglaw36.TreeBounds', WHERE WHAT IT READS IS OF BULK AT MOST 1048576: true; the input reads as it did. -/
def treeBoundsUptoRow : OpenClaim := { program := "ytaolgnmpgnamnaa", sum := "70223db64830e38a7a95ea7769c9669a7be0e07a0e43c93a02b75024ef498d8c", func := "kitbag/kitbaglaw36.TreeBounds", spec := "treeBounds", apart := false, narrowed := true }
def TreeBoundsUptoSaid : Prop := treeBoundsUptoRow.holds Try.pinned (OpenSpec.upto treeBoundsSpec)

/-- 'kitbaglaw36.TreePaths', WHERE WHAT IT READS IS OF BULK AT MOST 1048576: true; the input reads as it did. -/
def treePathsUptoRow : OpenClaim := { program := "ytaolgnmpgnamnaa", sum := "70223db64830e38a7a95ea7769c9669a7be0e07a0e43c93a02b75024ef498d8c", func := "kitbag/kitbaglaw36.TreePaths", spec := "treePaths", apart := false, narrowed := true }
def TreePathsUptoSaid : Prop := treePathsUptoRow.holds Try.pinned (OpenSpec.upto treePathsSpec)

/-- 'kitbaglaw36.TreeHides', WHERE WHAT IT READS IS OF BULK AT MOST 1048576: true; the input reads as it did. -/
def treeHidesUptoRow : OpenClaim := { program := "ytaolgnmpgnamnaa", sum := "70223db64830e38a7a95ea7769c9669a7be0e07a0e43c93a02b75024ef498d8c", func := "kitbag/kitbaglaw36.TreeHides", spec := "treeHides", apart := false, narrowed := true }
def TreeHidesUptoSaid : Prop := treeHidesUptoRow.holds Try.pinned (OpenSpec.upto treeHidesSpec)

/-- 'kitbaglaw49.RevealTells', WHERE WHAT IT READS IS OF BULK AT MOST 1048576: true; the input reads as it did. -/
def revealTellsUptoRow : OpenClaim := { program := "ytaolgnmpgnamnaa", sum := "70223db64830e38a7a95ea7769c9669a7be0e07a0e43c93a02b75024ef498d8c", func := "kitbag/kitbaglaw49.RevealTells", spec := "revealTells", apart := false, narrowed := true }
def RevealTellsUptoSaid : Prop := revealTellsUptoRow.holds Try.pinned (OpenSpec.upto revealTellsSpec)

/-- 'kitbaglaw49.RevealShows', WHERE WHAT IT READS IS OF BULK AT MOST 1048576: true; the input reads as it did. -/
def revealShowsUptoRow : OpenClaim := { program := "ytaolgnmpgnamnaa", sum := "70223db64830e38a7a95ea7769c9669a7be0e07a0e43c93a02b75024ef498d8c", func := "kitbag/kitbaglaw49.RevealShows", spec := "revealShows", apart := false, narrowed := true }
def RevealShowsUptoSaid : Prop := revealShowsUptoRow.holds Try.pinned (OpenSpec.upto revealShowsSpec)

/-- 'kitbaglaw49.RevealAgrees', WHERE WHAT IT READS IS OF BULK AT MOST 1048576: true; the input reads as it did. -/
def revealAgreesUptoRow : OpenClaim := { program := "ytaolgnmpgnamnaa", sum := "70223db64830e38a7a95ea7769c9669a7be0e07a0e43c93a02b75024ef498d8c", func := "kitbag/kitbaglaw49.RevealAgrees", spec := "revealAgrees", apart := false, narrowed := true }
def RevealAgreesUptoSaid : Prop := revealAgreesUptoRow.holds Try.pinned (OpenSpec.upto revealAgreesSpec)

/-- 'kitbaglaw49.RevealHides', WHERE WHAT IT READS IS OF BULK AT MOST 1048576: true; the input reads as it did. -/
def revealHidesUptoRow : OpenClaim := { program := "ytaolgnmpgnamnaa", sum := "70223db64830e38a7a95ea7769c9669a7be0e07a0e43c93a02b75024ef498d8c", func := "kitbag/kitbaglaw49.RevealHides", spec := "revealHides", apart := false, narrowed := true }
def RevealHidesUptoSaid : Prop := revealHidesUptoRow.holds Try.pinned (OpenSpec.upto revealHidesSpec)

/-- 'kitbaglaw49.RevealBounds', WHERE WHAT IT READS IS OF BULK AT MOST 1048576: true; the input reads as it did. -/
def revealBoundsUptoRow : OpenClaim := { program := "ytaolgnmpgnamnaa", sum := "70223db64830e38a7a95ea7769c9669a7be0e07a0e43c93a02b75024ef498d8c", func := "kitbag/kitbaglaw49.RevealBounds", spec := "revealBounds", apart := false, narrowed := true }
def RevealBoundsUptoSaid : Prop := revealBoundsUptoRow.holds Try.pinned (OpenSpec.upto revealBoundsSpec)

end Rows
end Go.Proofs.Ytaolgnmpgnamnaa
