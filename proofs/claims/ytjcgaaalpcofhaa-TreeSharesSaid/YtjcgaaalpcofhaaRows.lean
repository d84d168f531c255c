/-
  No cell of these rows narrows 'for every input' (looked for: loops, veiled, ifaces, maps, wideKeys, modest, calm, conditions, laid).
  DERIVED. THE GIVEN ROWS OF THIS SEAT. 5 by the template 'for every input the law returns true; each argument reads behind the call as it read before'; 0 by the template 'total and deterministic' (their statements: YtjcgaaalpcofhaaTotals.lean).
  GIVEN WITH THE SEED: the statements are not yours to turn. If you find one false, say at which input.
  Laid BY PROGRAM, IN A SANDBOX (cutbox-rows.mjs): the forced cells as the released guide's own fill.sh prints them over the translation 85a54a988e0b9aae… (all of the seat's roots in one cut). By AI agents, Wed Nov 11 2026. No macro, syntax, notation, axiom, sorry.
-/
import Derived.Test.YtjcgaaalpcofhaaChecked
import GoSem.Claim
import GoSem.ClaimJoined
import GoSem.ClaimMapViews
import Derived.JoinedTies
import Derived.KernelRfl
namespace Go.Proofs.Ytjcgaaalpcofhaa
/- THE CELL 'sum', in the pinned program and in every row, IS THE sha256 OF THE DUMP (.gsa) THAT YtjcgaaalpcofhaaProg.lean LOADS. Nothing in Lean hashes anything: it is a label: what it is worth is what the hold of that sum in a sandbox is worth. -/
noncomputable def Try.pinned : Pinned := { name := "ytjcgaaalpcofhaa", sum := "85a54a988e0b9aae3a0e9d0d93b0c4edd5023cf936aa0e4fe82ec83d3c078dd0", checked := Try.checked }
namespace Rows
def none {H : Type} : Left H := { results := [], args := [] }

/-- 'kitbaglaw30.ShareScales': WHATEVER THE INPUT: true; the input reads as it did. -/
def shareScalesSpec : ChangeSpec := { name := "shareScales", fn := fun _ => fun
  | [d1, d2, d3, d4] => { results := [.lit (.bool true)], args := [d1, d2, d3, d4] }
  | _ => none }
def shareScalesRow : OpenClaim := { program := "ytjcgaaalpcofhaa", sum := "85a54a988e0b9aae3a0e9d0d93b0c4edd5023cf936aa0e4fe82ec83d3c078dd0", func := "kitbag/kitbaglaw30.ShareScales", spec := "shareScales", unfollowed := true, recurses := true, apart := false }
def ShareScalesSaid : Prop := shareScalesRow.holds Try.pinned (OpenSpec.ofChange shareScalesSpec)

/-- ITS FALSE NEIGHBOUR: 'it returns false'. Refute it at one input. -/
def shareScalesWrong : ChangeSpec := { name := "shareScales", fn := fun _ => fun
  | [d1, d2, d3, d4] => { results := [.lit (.bool false)], args := [d1, d2, d3, d4] }
  | _ => none }
def ShareScalesWrongFalsely : Prop := shareScalesRow.holds Try.pinned (OpenSpec.ofChange shareScalesWrong)

/-- 'kitbaglaw30.ShareRounds': WHATEVER THE INPUT: true; the input reads as it did. -/
def shareRoundsSpec : ChangeSpec := { name := "shareRounds", fn := fun _ => fun
  | [d1, d2] => { results := [.lit (.bool true)], args := [d1, d2] }
  | _ => none }
def shareRoundsRow : OpenClaim := { program := "ytjcgaaalpcofhaa", sum := "85a54a988e0b9aae3a0e9d0d93b0c4edd5023cf936aa0e4fe82ec83d3c078dd0", func := "kitbag/kitbaglaw30.ShareRounds", spec := "shareRounds", unfollowed := true, recurses := true, apart := false }
def ShareRoundsSaid : Prop := shareRoundsRow.holds Try.pinned (OpenSpec.ofChange shareRoundsSpec)

/-- ITS FALSE NEIGHBOUR: 'it returns false'. Refute it at one input. -/
def shareRoundsWrong : ChangeSpec := { name := "shareRounds", fn := fun _ => fun
  | [d1, d2] => { results := [.lit (.bool false)], args := [d1, d2] }
  | _ => none }
def ShareRoundsWrongFalsely : Prop := shareRoundsRow.holds Try.pinned (OpenSpec.ofChange shareRoundsWrong)

/-- 'kitbaglaw30.ShareWhole': WHATEVER THE INPUT: true; the input reads as it did. -/
def shareWholeSpec : ChangeSpec := { name := "shareWhole", fn := fun _ => fun
  | [d1, d2] => { results := [.lit (.bool true)], args := [d1, d2] }
  | _ => none }
def shareWholeRow : OpenClaim := { program := "ytjcgaaalpcofhaa", sum := "85a54a988e0b9aae3a0e9d0d93b0c4edd5023cf936aa0e4fe82ec83d3c078dd0", func := "kitbag/kitbaglaw30.ShareWhole", spec := "shareWhole", unfollowed := true, recurses := true, apart := false }
def ShareWholeSaid : Prop := shareWholeRow.holds Try.pinned (OpenSpec.ofChange shareWholeSpec)

/-- ITS FALSE NEIGHBOUR: 'it returns false'. Refute it at one input. -/
def shareWholeWrong : ChangeSpec := { name := "shareWhole", fn := fun _ => fun
  | [d1, d2] => { results := [.lit (.bool false)], args := [d1, d2] }
  | _ => none }
def ShareWholeWrongFalsely : Prop := shareWholeRow.holds Try.pinned (OpenSpec.ofChange shareWholeWrong)

/-- 'kitbaglaw36.TreeShares': WHATEVER THE INPUT: true; the input reads as it did. -/
def treeSharesSpec : ChangeSpec := { name := "treeShares", fn := fun _ => fun
  | [d1, d2, d3] => { results := [.lit (.bool true)], args := [d1, d2, d3] }
  | _ => none }
def treeSharesRow : OpenClaim := { program := "ytjcgaaalpcofhaa", sum := "85a54a988e0b9aae3a0e9d0d93b0c4edd5023cf936aa0e4fe82ec83d3c078dd0", func := "kitbag/kitbaglaw36.TreeShares", spec := "treeShares", unfollowed := true, recurses := true, apart := false }
def TreeSharesSaid : Prop := treeSharesRow.holds Try.pinned (OpenSpec.ofChange treeSharesSpec)

/-- ITS FALSE NEIGHBOUR: 'it returns false'. Refute it at one input. -/
def treeSharesWrong : ChangeSpec := { name := "treeShares", fn := fun _ => fun
  | [d1, d2, d3] => { results := [.lit (.bool false)], args := [d1, d2, d3] }
  | _ => none }
def TreeSharesWrongFalsely : Prop := treeSharesRow.holds Try.pinned (OpenSpec.ofChange treeSharesWrong)

/-- 'kitbaglaw49.RevealShares': WHATEVER THE INPUT: true; the input reads as it did. -/
def revealSharesSpec : ChangeSpec := { name := "revealShares", fn := fun _ => fun
  | [d1, d2, d3] => { results := [.lit (.bool true)], args := [d1, d2, d3] }
  | _ => none }
def revealSharesRow : OpenClaim := { program := "ytjcgaaalpcofhaa", sum := "85a54a988e0b9aae3a0e9d0d93b0c4edd5023cf936aa0e4fe82ec83d3c078dd0", func := "kitbag/kitbaglaw49.RevealShares", spec := "revealShares", unfollowed := true, recurses := true, apart := false }
def RevealSharesSaid : Prop := revealSharesRow.holds Try.pinned (OpenSpec.ofChange revealSharesSpec)

/-- ITS FALSE NEIGHBOUR: 'it returns false'. Refute it at one input. -/
def revealSharesWrong : ChangeSpec := { name := "revealShares", fn := fun _ => fun
  | [d1, d2, d3] => { results := [.lit (.bool false)], args := [d1, d2, d3] }
  | _ => none }
def RevealSharesWrongFalsely : Prop := revealSharesRow.holds Try.pinned (OpenSpec.ofChange revealSharesWrong)

/- THE SECOND FORM. 'bulk': how many values and letters a reading holds, each counted each time it is reached (what is shared counts as often as it is met; a slice's spare places count too). A statement '..UptoSaid' is the law's where the arguments, and the package variables that the reading takes, are together of bulk at most 1048576: NARROWER than '..Said'. Prove '..Said' where nothing that the law and all that it calls make is longer than what came in: it says more and counts as full. Else prove '..UptoSaid'. A law counts once. -/
mutual
def uptoBulk {H : Type} : DataW H → Nat
  | .lit (.string bytes) => bytes.length + 1
  | .lit _ => 1
  | .nil => 1
  | .ptr d => uptoBulk d + 1
  | .slice elems spare => uptoBulkAll elems + uptoBulkAll spare + 1
  | .agg parts => uptoBulkAll parts + 1
  | .iface _ d => uptoBulk d + 1
  | .map entries => uptoBulkEntries entries + 1
  | .held _ => 1
def uptoBulkAll {H : Type} : List (DataW H) → Nat
  | [] => 0
  | d :: r => uptoBulk d + uptoBulkAll r
def uptoBulkEntries {H : Type} : List (Lit × DataW H) → Nat
  | [] => 0
  | x :: r => uptoBulkEntry x + uptoBulkEntries r
def uptoBulkEntry {H : Type} : Lit × DataW H → Nat
  | (.string bytes, d) => bytes.length + uptoBulk d + 1
  | (_, d) => uptoBulk d + 1
 end
def uptoSmall : (H : Type) → List (DataW H) → Bool := fun _ ds => decide (uptoBulkAll ds ≤ 1048576)
def OpenSpec.upto (s : _root_.Go.ChangeSpec) : _root_.Go.OpenSpec := { _root_.Go.OpenSpec.ofChange s with cond := some uptoSmall }

/-- 'kitbaglaw30.ShareScales', WHERE WHAT IT READS IS OF BULK AT MOST 1048576: true; the input reads as it did. -/
def shareScalesUptoRow : OpenClaim := { program := "ytjcgaaalpcofhaa", sum := "85a54a988e0b9aae3a0e9d0d93b0c4edd5023cf936aa0e4fe82ec83d3c078dd0", func := "kitbag/kitbaglaw30.ShareScales", spec := "shareScales", unfollowed := true, recurses := true, apart := false, narrowed := true }
def ShareScalesUptoSaid : Prop := shareScalesUptoRow.holds Try.pinned (OpenSpec.upto shareScalesSpec)

/-- 'kitbaglaw30.ShareRounds', WHERE WHAT IT READS IS OF BULK AT MOST 1048576: true; the input reads as it did. -/
def shareRoundsUptoRow : OpenClaim := { program := "ytjcgaaalpcofhaa", sum := "85a54a988e0b9aae3a0e9d0d93b0c4edd5023cf936aa0e4fe82ec83d3c078dd0", func := "kitbag/kitbaglaw30.ShareRounds", spec := "shareRounds", unfollowed := true, recurses := true, apart := false, narrowed := true }
def ShareRoundsUptoSaid : Prop := shareRoundsUptoRow.holds Try.pinned (OpenSpec.upto shareRoundsSpec)

/-- 'kitbaglaw30.ShareWhole', WHERE WHAT IT READS IS OF BULK AT MOST 1048576: true; the input reads as it did. -/
def shareWholeUptoRow : OpenClaim := { program := "ytjcgaaalpcofhaa", sum := "85a54a988e0b9aae3a0e9d0d93b0c4edd5023cf936aa0e4fe82ec83d3c078dd0", func := "kitbag/kitbaglaw30.ShareWhole", spec := "shareWhole", unfollowed := true, recurses := true, apart := false, narrowed := true }
def ShareWholeUptoSaid : Prop := shareWholeUptoRow.holds Try.pinned (OpenSpec.upto shareWholeSpec)

/-- 'kitbaglaw36.TreeShares', WHERE WHAT IT READS IS OF BULK AT MOST 1048576: true; the input reads as it did. -/
def treeSharesUptoRow : OpenClaim := { program := "ytjcgaaalpcofhaa", sum := "85a54a988e0b9aae3a0e9d0d93b0c4edd5023cf936aa0e4fe82ec83d3c078dd0", func := "kitbag/kitbaglaw36.TreeShares", spec := "treeShares", unfollowed := true, recurses := true, apart := false, narrowed := true }
def TreeSharesUptoSaid : Prop := treeSharesUptoRow.holds Try.pinned (OpenSpec.upto treeSharesSpec)

/-- 'kitbaglaw49.RevealShares', WHERE WHAT IT READS IS OF BULK AT MOST 1048576: true; the input reads as it did. -/
def revealSharesUptoRow : OpenClaim := { program := "ytjcgaaalpcofhaa", sum := "85a54a988e0b9aae3a0e9d0d93b0c4edd5023cf936aa0e4fe82ec83d3c078dd0", func := "kitbag/kitbaglaw49.RevealShares", spec := "revealShares", unfollowed := true, recurses := true, apart := false, narrowed := true }
def RevealSharesUptoSaid : Prop := revealSharesUptoRow.holds Try.pinned (OpenSpec.upto revealSharesSpec)

end Rows
end Go.Proofs.Ytjcgaaalpcofhaa
