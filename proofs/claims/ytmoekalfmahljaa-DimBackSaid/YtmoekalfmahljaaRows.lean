/-
  No cell of these rows narrows 'for every input' (looked for: loops, veiled, ifaces, maps, wideKeys, modest, calm, conditions, laid).
  DERIVED. THE GIVEN ROWS OF THIS SEAT. 3 by the template 'for every input the law returns true; each argument reads behind the call as it read before'; 0 by the template 'total and deterministic' (their statements: YtmoekalfmahljaaTotals.lean).
  GIVEN WITH THE SEED: the statements are not yours to turn. If you find one false, say at which input.
  Laid BY PROGRAM, IN A SANDBOX (cutbox-rows.mjs): the forced cells as the released guide's own fill.sh prints them over the translation 2528e93a82a1d026… (all of the seat's roots in one cut). By AI agents, Wed Nov 11 2026. No macro, syntax, notation, axiom, sorry.
-/
import Derived.Test.YtmoekalfmahljaaChecked
import GoSem.Claim
import GoSem.ClaimJoined
import GoSem.ClaimMapViews
import Derived.JoinedTies
import Derived.KernelRfl
namespace Go.Proofs.Ytmoekalfmahljaa
/- THE CELL 'sum', in the pinned program and in every row, IS THE sha256 OF THE DUMP (.gsa) THAT YtmoekalfmahljaaProg.lean LOADS. Nothing in Lean hashes anything: it is a label: what it is worth is what the hold of that sum in a sandbox is worth. -/
noncomputable def Try.pinned : Pinned := { name := "ytmoekalfmahljaa", sum := "2528e93a82a1d026002153715b07d973e78409cb5c59fe13f4d16d586e343598", checked := Try.checked }
namespace Rows
def none {H : Type} : Left H := { results := [], args := [] }

/-- 'kitbaglaw08.DimBack': WHATEVER THE INPUT: true; the input reads as it did. -/
def dimBackSpec : ChangeSpec := { name := "dimBack", fn := fun _ => fun
  | [d1, d2] => { results := [.lit (.bool true)], args := [d1, d2] }
  | _ => none }
def dimBackRow : OpenClaim := { program := "ytmoekalfmahljaa", sum := "2528e93a82a1d026002153715b07d973e78409cb5c59fe13f4d16d586e343598", func := "kitbag/kitbaglaw08.DimBack", spec := "dimBack", inPlace := ["internal/abi.NoEscape", "internal/bytealg.MakeNoZero"], unfollowed := true, recurses := true, apart := false }
def DimBackSaid : Prop := dimBackRow.holds Try.pinned (OpenSpec.ofChange dimBackSpec)

/-- ITS FALSE NEIGHBOUR: 'it returns false'. Refute it at one input. -/
def dimBackWrong : ChangeSpec := { name := "dimBack", fn := fun _ => fun
  | [d1, d2] => { results := [.lit (.bool false)], args := [d1, d2] }
  | _ => none }
def DimBackWrongFalsely : Prop := dimBackRow.holds Try.pinned (OpenSpec.ofChange dimBackWrong)

/-- 'kitbaglaw08.DimGroup': WHATEVER THE INPUT: true; the input reads as it did. -/
def dimGroupSpec : ChangeSpec := { name := "dimGroup", fn := fun _ => fun
  | [d1, d2, d3] => { results := [.lit (.bool true)], args := [d1, d2, d3] }
  | _ => none }
def dimGroupRow : OpenClaim := { program := "ytmoekalfmahljaa", sum := "2528e93a82a1d026002153715b07d973e78409cb5c59fe13f4d16d586e343598", func := "kitbag/kitbaglaw08.DimGroup", spec := "dimGroup", inPlace := ["internal/abi.NoEscape", "internal/bytealg.MakeNoZero"], unfollowed := true, recurses := true, apart := false }
def DimGroupSaid : Prop := dimGroupRow.holds Try.pinned (OpenSpec.ofChange dimGroupSpec)

/-- ITS FALSE NEIGHBOUR: 'it returns false'. Refute it at one input. -/
def dimGroupWrong : ChangeSpec := { name := "dimGroup", fn := fun _ => fun
  | [d1, d2, d3] => { results := [.lit (.bool false)], args := [d1, d2, d3] }
  | _ => none }
def DimGroupWrongFalsely : Prop := dimGroupRow.holds Try.pinned (OpenSpec.ofChange dimGroupWrong)

/-- 'kitbaglaw08.DimPowers': WHATEVER THE INPUT: true; the input reads as it did. -/
def dimPowersSpec : ChangeSpec := { name := "dimPowers", fn := fun _ => fun
  | [d1, d2, d3] => { results := [.lit (.bool true)], args := [d1, d2, d3] }
  | _ => none }
def dimPowersRow : OpenClaim := { program := "ytmoekalfmahljaa", sum := "2528e93a82a1d026002153715b07d973e78409cb5c59fe13f4d16d586e343598", func := "kitbag/kitbaglaw08.DimPowers", spec := "dimPowers", inPlace := ["internal/abi.NoEscape", "internal/bytealg.MakeNoZero"], unfollowed := true, recurses := true, apart := false }
def DimPowersSaid : Prop := dimPowersRow.holds Try.pinned (OpenSpec.ofChange dimPowersSpec)

/-- ITS FALSE NEIGHBOUR: 'it returns false'. Refute it at one input. -/
def dimPowersWrong : ChangeSpec := { name := "dimPowers", fn := fun _ => fun
  | [d1, d2, d3] => { results := [.lit (.bool false)], args := [d1, d2, d3] }
  | _ => none }
def DimPowersWrongFalsely : Prop := dimPowersRow.holds Try.pinned (OpenSpec.ofChange dimPowersWrong)

/- THE SECOND FORM. 'bulk': how many values and letters a reading holds, each counted each time it is reached (what is shared counts as often as it is met; a slice's spare places count too). A statement '..UptoSaid' is the law's where the arguments, and the package variables that the reading takes, are together of bulk at most 1048576: NARROWER than '..Said'. Prove '..Said' where nothing that the law and all that it calls make is longer than what came in: it says more and counts as full. Else prove '..UptoSaid'. A law counts once. -/
mutual
def uptoBulk {H : Type} : DataW H → Nat
  | .lit (.string bytes) => bytes.length + 1
  | .lit _ => 1
  | .nil => 1
  | .ptr d => uptoBulk d + 1
  | .slice elems spare => uptoBulkAll elems + uptoBulkAll spare + 1
  | .agg parts => uptoBulkAll parts + 1
  | .iface _ d => uptoBulk d + 1
  | .map entries => uptoBulkEntries entries + 1
  | .held _ => 1
def uptoBulkAll {H : Type} : List (DataW H) → Nat
  | [] => 0
  | d :: r => uptoBulk d + uptoBulkAll r
def uptoBulkEntries {H : Type} : List (Lit × DataW H) → Nat
  | [] => 0
  | x :: r => uptoBulkEntry x + uptoBulkEntries r
def uptoBulkEntry {H : Type} : Lit × DataW H → Nat
  | (.string bytes, d) => bytes.length + uptoBulk d + 1
  | (_, d) => uptoBulk d + 1
 end
def uptoSmall : (H : Type) → List (DataW H) → Bool := fun _ ds => decide (uptoBulkAll ds ≤ 1048576)
def OpenSpec.upto (s : _root_.Go.ChangeSpec) : _root_.Go.OpenSpec := { _root_.Go.OpenSpec.ofChange s with cond := some uptoSmall }

/-- 'kitbaglaw08.DimBack', WHERE WHAT IT READS IS OF BULK AT MOST 1048576: true; the input reads as it did. -/
def dimBackUptoRow : OpenClaim := { program := "ytmoekalfmahljaa", sum := "2528e93a82a1d026002153715b07d973e78409cb5c59fe13f4d16d586e343598", func := "kitbag/kitbaglaw08.DimBack", spec := "dimBack", inPlace := ["internal/abi.NoEscape", "internal/bytealg.MakeNoZero"], unfollowed := true, recurses := true, apart := false, narrowed := true }
def DimBackUptoSaid : Prop := dimBackUptoRow.holds Try.pinned (OpenSpec.upto dimBackSpec)

/-- 'kitbaglaw08.DimGroup', WHERE WHAT IT READS IS OF BULK AT MOST 1048576: true; the input reads as it did. -/
def dimGroupUptoRow : OpenClaim := { program := "ytmoekalfmahljaa", sum := "2528e93a82a1d026002153715b07d973e78409cb5c59fe13f4d16d586e343598", func := "kitbag/kitbaglaw08.DimGroup", spec := "dimGroup", inPlace := ["internal/abi.NoEscape", "internal/bytealg.MakeNoZero"], unfollowed := true, recurses := true, apart := false, narrowed := true }
def DimGroupUptoSaid : Prop := dimGroupUptoRow.holds Try.pinned (OpenSpec.upto dimGroupSpec)

/-- 'kitbaglaw08.DimPowers', WHERE WHAT IT READS IS OF BULK AT MOST 1048576: true; the input reads as it did. -/
def dimPowersUptoRow : OpenClaim := { program := "ytmoekalfmahljaa", sum := "2528e93a82a1d026002153715b07d973e78409cb5c59fe13f4d16d586e343598", func := "kitbag/kitbaglaw08.DimPowers", spec := "dimPowers", inPlace := ["internal/abi.NoEscape", "internal/bytealg.MakeNoZero"], unfollowed := true, recurses := true, apart := false, narrowed := true }
def DimPowersUptoSaid : Prop := dimPowersUptoRow.holds Try.pinned (OpenSpec.upto dimPowersSpec)

end Rows
end Go.Proofs.Ytmoekalfmahljaa
