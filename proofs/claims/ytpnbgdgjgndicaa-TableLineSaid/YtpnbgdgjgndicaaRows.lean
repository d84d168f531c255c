/-
  No cell of these rows narrows 'for every input' (looked for: loops, veiled, ifaces, maps, wideKeys, modest, calm, conditions, laid).
  DERIVED. THE GIVEN ROWS OF THIS SEAT. 8 by the template 'for every input the law returns true; each argument reads behind the call as it read before'; 0 by the template 'total and deterministic' (their statements: YtpnbgdgjgndicaaTotals.lean).
  GIVEN WITH THE SEED: the statements are not yours to turn. If you find one false, say at which input.
  Laid BY PROGRAM, IN A SANDBOX (cutbox-rows.mjs): the forced cells as the released guide's own fill.sh prints them over the translation 552c1f937ccb53ac… (all of the seat's roots in one cut). By AI agents, Wed Nov 11 2026. No macro, syntax, notation, axiom, sorry.
-/
import Derived.Test.YtpnbgdgjgndicaaChecked
import GoSem.Claim
import GoSem.ClaimJoined
import GoSem.ClaimMapViews
import Derived.JoinedTies
import Derived.KernelRfl
namespace Go.Proofs.Ytpnbgdgjgndicaa
/- THE CELL 'sum', in the pinned program and in every row, IS THE sha256 OF THE DUMP (.gsa) THAT YtpnbgdgjgndicaaProg.lean LOADS. Nothing in Lean hashes anything: it is a label: what it is worth is what the hold of that sum in a sandbox is worth. -/
noncomputable def Try.pinned : Pinned := { name := "ytpnbgdgjgndicaa", sum := "552c1f937ccb53ac68661ccbc706aa455f445aec4b1ad8fbd23b0d37d40ef576", checked := Try.checked }
namespace Rows
def none {H : Type} : Left H := { results := [], args := [] }

/-- 'kitbaglaw09.UnitDims': WHATEVER THE INPUT: true; the input reads as it did. -/
def unitDimsSpec : ChangeSpec := { name := "unitDims", fn := fun _ => fun
  | [d1, d2, d3] => { results := [.lit (.bool true)], args := [d1, d2, d3] }
  | _ => none }
def unitDimsRow : OpenClaim := { program := "ytpnbgdgjgndicaa", sum := "552c1f937ccb53ac68661ccbc706aa455f445aec4b1ad8fbd23b0d37d40ef576", func := "kitbag/kitbaglaw09.UnitDims", spec := "unitDims", inPlace := ["internal/abi.NoEscape", "internal/bytealg.MakeNoZero"], apart := false }
def UnitDimsSaid : Prop := unitDimsRow.holds Try.pinned (OpenSpec.ofChange unitDimsSpec)

/-- ITS FALSE NEIGHBOUR: 'it returns false'. Refute it at one input. -/
def unitDimsWrong : ChangeSpec := { name := "unitDims", fn := fun _ => fun
  | [d1, d2, d3] => { results := [.lit (.bool false)], args := [d1, d2, d3] }
  | _ => none }
def UnitDimsWrongFalsely : Prop := unitDimsRow.holds Try.pinned (OpenSpec.ofChange unitDimsWrong)

/-- 'kitbaglaw09.UnitBack': WHATEVER THE INPUT: true; the input reads as it did. -/
def unitBackSpec : ChangeSpec := { name := "unitBack", fn := fun _ => fun
  | [d1, d2, d3] => { results := [.lit (.bool true)], args := [d1, d2, d3] }
  | _ => none }
def unitBackRow : OpenClaim := { program := "ytpnbgdgjgndicaa", sum := "552c1f937ccb53ac68661ccbc706aa455f445aec4b1ad8fbd23b0d37d40ef576", func := "kitbag/kitbaglaw09.UnitBack", spec := "unitBack", inPlace := ["internal/abi.NoEscape", "internal/bytealg.MakeNoZero"], apart := false }
def UnitBackSaid : Prop := unitBackRow.holds Try.pinned (OpenSpec.ofChange unitBackSpec)

/-- ITS FALSE NEIGHBOUR: 'it returns false'. Refute it at one input. -/
def unitBackWrong : ChangeSpec := { name := "unitBack", fn := fun _ => fun
  | [d1, d2, d3] => { results := [.lit (.bool false)], args := [d1, d2, d3] }
  | _ => none }
def UnitBackWrongFalsely : Prop := unitBackRow.holds Try.pinned (OpenSpec.ofChange unitBackWrong)

/-- 'kitbaglaw13.TableLook': WHATEVER THE INPUT: true; the input reads as it did. -/
def tableLookSpec : ChangeSpec := { name := "tableLook", fn := fun _ => fun
  | [d1, d2, d3] => { results := [.lit (.bool true)], args := [d1, d2, d3] }
  | _ => none }
def tableLookRow : OpenClaim := { program := "ytpnbgdgjgndicaa", sum := "552c1f937ccb53ac68661ccbc706aa455f445aec4b1ad8fbd23b0d37d40ef576", func := "kitbag/kitbaglaw13.TableLook", spec := "tableLook", unfollowed := true, recurses := true, apart := false }
def TableLookSaid : Prop := tableLookRow.holds Try.pinned (OpenSpec.ofChange tableLookSpec)

/-- ITS FALSE NEIGHBOUR: 'it returns false'. Refute it at one input. -/
def tableLookWrong : ChangeSpec := { name := "tableLook", fn := fun _ => fun
  | [d1, d2, d3] => { results := [.lit (.bool false)], args := [d1, d2, d3] }
  | _ => none }
def TableLookWrongFalsely : Prop := tableLookRow.holds Try.pinned (OpenSpec.ofChange tableLookWrong)

/-- 'kitbaglaw13.TableSums': WHATEVER THE INPUT: true; the input reads as it did. -/
def tableSumsSpec : ChangeSpec := { name := "tableSums", fn := fun _ => fun
  | [d1, d2, d3, d4] => { results := [.lit (.bool true)], args := [d1, d2, d3, d4] }
  | _ => none }
def tableSumsRow : OpenClaim := { program := "ytpnbgdgjgndicaa", sum := "552c1f937ccb53ac68661ccbc706aa455f445aec4b1ad8fbd23b0d37d40ef576", func := "kitbag/kitbaglaw13.TableSums", spec := "tableSums", unfollowed := true, recurses := true, apart := false }
def TableSumsSaid : Prop := tableSumsRow.holds Try.pinned (OpenSpec.ofChange tableSumsSpec)

/-- ITS FALSE NEIGHBOUR: 'it returns false'. Refute it at one input. -/
def tableSumsWrong : ChangeSpec := { name := "tableSums", fn := fun _ => fun
  | [d1, d2, d3, d4] => { results := [.lit (.bool false)], args := [d1, d2, d3, d4] }
  | _ => none }
def TableSumsWrongFalsely : Prop := tableSumsRow.holds Try.pinned (OpenSpec.ofChange tableSumsWrong)

/-- 'kitbaglaw13.TableUnits': WHATEVER THE INPUT: true; the input reads as it did. -/
def tableUnitsSpec : ChangeSpec := { name := "tableUnits", fn := fun _ => fun
  | [d1, d2, d3, d4] => { results := [.lit (.bool true)], args := [d1, d2, d3, d4] }
  | _ => none }
def tableUnitsRow : OpenClaim := { program := "ytpnbgdgjgndicaa", sum := "552c1f937ccb53ac68661ccbc706aa455f445aec4b1ad8fbd23b0d37d40ef576", func := "kitbag/kitbaglaw13.TableUnits", spec := "tableUnits", unfollowed := true, recurses := true, apart := false }
def TableUnitsSaid : Prop := tableUnitsRow.holds Try.pinned (OpenSpec.ofChange tableUnitsSpec)

/-- ITS FALSE NEIGHBOUR: 'it returns false'. Refute it at one input. -/
def tableUnitsWrong : ChangeSpec := { name := "tableUnits", fn := fun _ => fun
  | [d1, d2, d3, d4] => { results := [.lit (.bool false)], args := [d1, d2, d3, d4] }
  | _ => none }
def TableUnitsWrongFalsely : Prop := tableUnitsRow.holds Try.pinned (OpenSpec.ofChange tableUnitsWrong)

/-- 'kitbaglaw09.UnitProducts': WHATEVER THE INPUT: true; the input reads as it did. -/
def unitProductsSpec : ChangeSpec := { name := "unitProducts", fn := fun _ => fun
  | [d1, d2] => { results := [.lit (.bool true)], args := [d1, d2] }
  | _ => none }
def unitProductsRow : OpenClaim := { program := "ytpnbgdgjgndicaa", sum := "552c1f937ccb53ac68661ccbc706aa455f445aec4b1ad8fbd23b0d37d40ef576", func := "kitbag/kitbaglaw09.UnitProducts", spec := "unitProducts", inPlace := ["internal/abi.NoEscape", "internal/bytealg.MakeNoZero"], unfollowed := true, recurses := true, apart := false }
def UnitProductsSaid : Prop := unitProductsRow.holds Try.pinned (OpenSpec.ofChange unitProductsSpec)

/-- ITS FALSE NEIGHBOUR: 'it returns false'. Refute it at one input. -/
def unitProductsWrong : ChangeSpec := { name := "unitProducts", fn := fun _ => fun
  | [d1, d2] => { results := [.lit (.bool false)], args := [d1, d2] }
  | _ => none }
def UnitProductsWrongFalsely : Prop := unitProductsRow.holds Try.pinned (OpenSpec.ofChange unitProductsWrong)

/-- 'kitbaglaw09.UnitGroup': WHATEVER THE INPUT: true; the input reads as it did. -/
def unitGroupSpec : ChangeSpec := { name := "unitGroup", fn := fun _ => fun
  | [d1, d2, d3, d4] => { results := [.lit (.bool true)], args := [d1, d2, d3, d4] }
  | _ => none }
def unitGroupRow : OpenClaim := { program := "ytpnbgdgjgndicaa", sum := "552c1f937ccb53ac68661ccbc706aa455f445aec4b1ad8fbd23b0d37d40ef576", func := "kitbag/kitbaglaw09.UnitGroup", spec := "unitGroup", inPlace := ["internal/abi.NoEscape", "internal/bytealg.MakeNoZero"], unfollowed := true, recurses := true, apart := false }
def UnitGroupSaid : Prop := unitGroupRow.holds Try.pinned (OpenSpec.ofChange unitGroupSpec)

/-- ITS FALSE NEIGHBOUR: 'it returns false'. Refute it at one input. -/
def unitGroupWrong : ChangeSpec := { name := "unitGroup", fn := fun _ => fun
  | [d1, d2, d3, d4] => { results := [.lit (.bool false)], args := [d1, d2, d3, d4] }
  | _ => none }
def UnitGroupWrongFalsely : Prop := unitGroupRow.holds Try.pinned (OpenSpec.ofChange unitGroupWrong)

/-- 'kitbaglaw13.TableLine': WHATEVER THE INPUT: true; the input reads as it did. -/
def tableLineSpec : ChangeSpec := { name := "tableLine", fn := fun _ => fun
  | [d1, d2, d3] => { results := [.lit (.bool true)], args := [d1, d2, d3] }
  | _ => none }
def tableLineRow : OpenClaim := { program := "ytpnbgdgjgndicaa", sum := "552c1f937ccb53ac68661ccbc706aa455f445aec4b1ad8fbd23b0d37d40ef576", func := "kitbag/kitbaglaw13.TableLine", spec := "tableLine", unfollowed := true, recurses := true, apart := false }
def TableLineSaid : Prop := tableLineRow.holds Try.pinned (OpenSpec.ofChange tableLineSpec)

/-- ITS FALSE NEIGHBOUR: 'it returns false'. Refute it at one input. -/
def tableLineWrong : ChangeSpec := { name := "tableLine", fn := fun _ => fun
  | [d1, d2, d3] => { results := [.lit (.bool false)], args := [d1, d2, d3] }
  | _ => none }
def TableLineWrongFalsely : Prop := tableLineRow.holds Try.pinned (OpenSpec.ofChange tableLineWrong)

/- THE SECOND FORM. 'bulk': how many values and letters a reading holds, each counted each time it is reached (what is shared counts as often as it is met; a slice's spare places count too). A statement '..UptoSaid' is the law's where the arguments, and the package variables that the reading takes, are together of bulk at most 1048576: NARROWER than '..Said'. Prove '..Said' where nothing that the law and all that it calls make is longer than what came in: it says more and counts as full. Else prove '..UptoSaid'. A law counts once. -/
mutual
def uptoBulk {H : Type} : DataW H → Nat
  | .lit (.string bytes) => bytes.length + 1
  | .lit _ => 1
  | .nil => 1
  | .ptr d => uptoBulk d + 1
  | .slice elems spare => uptoBulkAll elems + uptoBulkAll spare + 1
  | .agg parts => uptoBulkAll parts + 1
  | .iface _ d => uptoBulk d + 1
  | .map entries => uptoBulkEntries entries + 1
  | .held _ => 1
def uptoBulkAll {H : Type} : List (DataW H) → Nat
  | [] => 0
  | d :: r => uptoBulk d + uptoBulkAll r
def uptoBulkEntries {H : Type} : List (Lit × DataW H) → Nat
  | [] => 0
  | x :: r => uptoBulkEntry x + uptoBulkEntries r
def uptoBulkEntry {H : Type} : Lit × DataW H → Nat
  | (.string bytes, d) => bytes.length + uptoBulk d + 1
  | (_, d) => uptoBulk d + 1
 end
def uptoSmall : (H : Type) → List (DataW H) → Bool := fun _ ds => decide (uptoBulkAll ds ≤ 1048576)
def OpenSpec.upto (s : _root_.Go.ChangeSpec) : _root_.Go.OpenSpec := { _root_.Go.OpenSpec.ofChange s with cond := some uptoSmall }

/-- 'kitbaglaw09.UnitDims', WHERE WHAT IT READS IS OF BULK AT MOST 1048576: true; the input reads as it did. -/
def unitDimsUptoRow : OpenClaim := { program := "ytpnbgdgjgndicaa", sum := "552c1f937ccb53ac68661ccbc706aa455f445aec4b1ad8fbd23b0d37d40ef576", func := "kitbag/kitbaglaw09.UnitDims", spec := "unitDims", inPlace := ["internal/abi.NoEscape", "internal/bytealg.MakeNoZero"], apart := false, narrowed := true }
def UnitDimsUptoSaid : Prop := unitDimsUptoRow.holds Try.pinned (OpenSpec.upto unitDimsSpec)

/-- 'kitbaglaw09.UnitBack', WHERE WHAT IT READS IS OF BULK AT MOST 1048576: true; the input reads as it did. -/
def unitBackUptoRow : OpenClaim := { program := "ytpnbgdgjgndicaa", sum := "552c1f937ccb53ac68661ccbc706aa455f445aec4b1ad8fbd23b0d37d40ef576", func := "kitbag/kitbaglaw09.UnitBack", spec := "unitBack", inPlace := ["internal/abi.NoEscape", "internal/bytealg.MakeNoZero"], apart := false, narrowed := true }
def UnitBackUptoSaid : Prop := unitBackUptoRow.holds Try.pinned (OpenSpec.upto unitBackSpec)

/-- 'kitbaglaw13.TableLook', WHERE WHAT IT READS IS OF BULK AT MOST 1048576: true; the input reads as it did. -/
def tableLookUptoRow : OpenClaim := { program := "ytpnbgdgjgndicaa", sum := "552c1f937ccb53ac68661ccbc706aa455f445aec4b1ad8fbd23b0d37d40ef576", func := "kitbag/kitbaglaw13.TableLook", spec := "tableLook", unfollowed := true, recurses := true, apart := false, narrowed := true }
def TableLookUptoSaid : Prop := tableLookUptoRow.holds Try.pinned (OpenSpec.upto tableLookSpec)

/-- 'kitbaglaw13.TableSums', WHERE WHAT IT READS IS OF BULK AT MOST 1048576: true; the input reads as it did. -/
def tableSumsUptoRow : OpenClaim := { program := "ytpnbgdgjgndicaa", sum := "552c1f937ccb53ac68661ccbc706aa455f445aec4b1ad8fbd23b0d37d40ef576", func := "kitbag/kitbaglaw13.TableSums", spec := "tableSums", unfollowed := true, recurses := true, apart := false, narrowed := true }
def TableSumsUptoSaid : Prop := tableSumsUptoRow.holds Try.pinned (OpenSpec.upto tableSumsSpec)

/-- 'kitbaglaw13.TableUnits', WHERE WHAT IT READS IS OF BULK AT MOST 1048576: true; the input reads as it did. -/
def tableUnitsUptoRow : OpenClaim := { program := "ytpnbgdgjgndicaa", sum := "552c1f937ccb53ac68661ccbc706aa455f445aec4b1ad8fbd23b0d37d40ef576", func := "kitbag/kitbaglaw13.TableUnits", spec := "tableUnits", unfollowed := true, recurses := true, apart := false, narrowed := true }
def TableUnitsUptoSaid : Prop := tableUnitsUptoRow.holds Try.pinned (OpenSpec.upto tableUnitsSpec)

/-- 'kitbaglaw09.UnitProducts', WHERE WHAT IT READS IS OF BULK AT MOST 1048576: true; the input reads as it did. -/
def unitProductsUptoRow : OpenClaim := { program := "ytpnbgdgjgndicaa", sum := "552c1f937ccb53ac68661ccbc706aa455f445aec4b1ad8fbd23b0d37d40ef576", func := "kitbag/kitbaglaw09.UnitProducts", spec := "unitProducts", inPlace := ["internal/abi.NoEscape", "internal/bytealg.MakeNoZero"], unfollowed := true, recurses := true, apart := false, narrowed := true }
def UnitProductsUptoSaid : Prop := unitProductsUptoRow.holds Try.pinned (OpenSpec.upto unitProductsSpec)

/-- 'kitbaglaw09.UnitGroup', WHERE WHAT IT READS IS OF BULK AT MOST 1048576: true; the input reads as it did. -/
def unitGroupUptoRow : OpenClaim := { program := "ytpnbgdgjgndicaa", sum := "552c1f937ccb53ac68661ccbc706aa455f445aec4b1ad8fbd23b0d37d40ef576", func := "kitbag/kitbaglaw09.UnitGroup", spec := "unitGroup", inPlace := ["internal/abi.NoEscape", "internal/bytealg.MakeNoZero"], unfollowed := true, recurses := true, apart := false, narrowed := true }
def UnitGroupUptoSaid : Prop := unitGroupUptoRow.holds Try.pinned (OpenSpec.upto unitGroupSpec)

/-- 'kitbaglaw13.TableLine', WHERE WHAT IT READS IS OF BULK AT MOST 1048576: true; the input reads as it did. -/
def tableLineUptoRow : OpenClaim := { program := "ytpnbgdgjgndicaa", sum := "552c1f937ccb53ac68661ccbc706aa455f445aec4b1ad8fbd23b0d37d40ef576", func := "kitbag/kitbaglaw13.TableLine", spec := "tableLine", unfollowed := true, recurses := true, apart := false, narrowed := true }
def TableLineUptoSaid : Prop := tableLineUptoRow.holds Try.pinned (OpenSpec.upto tableLineSpec)

end Rows
end Go.Proofs.Ytpnbgdgjgndicaa
