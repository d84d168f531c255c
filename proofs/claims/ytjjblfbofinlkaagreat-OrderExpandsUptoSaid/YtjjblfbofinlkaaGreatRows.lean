/-
  NARROWER THAN 'FOR EVERY INPUT', by the rows' own cells (each row's printed sentence says how): OrderTells: loops · OrderLeast: loops · OrderCycle: loops · OrderExpands: loops · OrderMore: loops · OrderTurns: loops.
  DERIVED. THE GIVEN ROWS OF THIS SEAT. 6 by the template 'for every input the law returns true; each argument reads behind the call as it read before'; 0 by the template 'total and deterministic' (their statements: YtjjblfbofinlkaaGreatTotals.lean).
  GIVEN WITH THE SEED: the statements are not yours to turn. If you find one false, say at which input.
  Laid BY PROGRAM, IN A SANDBOX (cutbox-rows.mjs): the forced cells as the released guide's own fill.sh prints them over the translation 03bacd33705ee5c3… (all of the seat's roots in one cut). By AI agents, Wed Nov 11 2026. No macro, syntax, notation, axiom, sorry.
-/
import Derived.Test.YtjjblfbofinlkaaGreatChecked
import GoSem.Claim
import GoSem.ClaimJoined
import GoSem.ClaimMapViews
import Derived.JoinedTies
import Derived.KernelRfl
namespace Go.Proofs.YtjjblfbofinlkaaGreat
/- THE CELL 'sum', in the pinned program and in every row, IS THE sha256 OF THE DUMP (.gsa) THAT YtjjblfbofinlkaaGreatProg.lean LOADS. Nothing in Lean hashes anything: it is a label: what it is worth is what the hold of that sum in a sandbox is worth. -/
noncomputable def Tryz.pinned : Pinned := { name := "ytjjblfbofinlkaagreat", sum := "03bacd33705ee5c3d8086752ed4ec6809a1b6c586b991caa744229c4f4110823", checked := Tryz.checked }
namespace Rows
def none {H : Type} : Left H := { results := [], args := [] }

/-- 'kitbaglaw21.OrderTells': WHATEVER THE INPUT: true; the input reads as it did. -/
def orderTellsSpec : ChangeSpec := { name := "orderTells", fn := fun _ => fun
  | [d1, d2] => { results := [.lit (.bool true)], args := [d1, d2] }
  | _ => none }
def orderTellsRow : OpenClaim := { program := "ytjjblfbofinlkaagreat", sum := "03bacd33705ee5c3d8086752ed4ec6809a1b6c586b991caa744229c4f4110823", func := "kitbag/kitbaglaw21.OrderTells", spec := "orderTells", inPlace := ["internal/abi.NoEscape"], unfollowed := true, recurses := true, loops := true, apart := false }
def OrderTellsSaid : Prop := orderTellsRow.holds Tryz.pinned (OpenSpec.ofChange orderTellsSpec)

/-- ITS FALSE NEIGHBOUR: 'it returns false'. Refute it at one input. -/
def orderTellsWrong : ChangeSpec := { name := "orderTells", fn := fun _ => fun
  | [d1, d2] => { results := [.lit (.bool false)], args := [d1, d2] }
  | _ => none }
def OrderTellsWrongFalsely : Prop := orderTellsRow.holds Tryz.pinned (OpenSpec.ofChange orderTellsWrong)

/-- 'kitbaglaw21.OrderLeast': WHATEVER THE INPUT: true; the input reads as it did. -/
def orderLeastSpec : ChangeSpec := { name := "orderLeast", fn := fun _ => fun
  | [d] => { results := [.lit (.bool true)], args := [d] }
  | _ => none }
def orderLeastRow : OpenClaim := { program := "ytjjblfbofinlkaagreat", sum := "03bacd33705ee5c3d8086752ed4ec6809a1b6c586b991caa744229c4f4110823", func := "kitbag/kitbaglaw21.OrderLeast", spec := "orderLeast", inPlace := ["internal/abi.NoEscape"], unfollowed := true, recurses := true, loops := true, apart := false }
def OrderLeastSaid : Prop := orderLeastRow.holds Tryz.pinned (OpenSpec.ofChange orderLeastSpec)

/-- ITS FALSE NEIGHBOUR: 'it returns false'. Refute it at one input. -/
def orderLeastWrong : ChangeSpec := { name := "orderLeast", fn := fun _ => fun
  | [d] => { results := [.lit (.bool false)], args := [d] }
  | _ => none }
def OrderLeastWrongFalsely : Prop := orderLeastRow.holds Tryz.pinned (OpenSpec.ofChange orderLeastWrong)

/-- 'kitbaglaw21.OrderCycle': WHATEVER THE INPUT: true; the input reads as it did. -/
def orderCycleSpec : ChangeSpec := { name := "orderCycle", fn := fun _ => fun
  | [d] => { results := [.lit (.bool true)], args := [d] }
  | _ => none }
def orderCycleRow : OpenClaim := { program := "ytjjblfbofinlkaagreat", sum := "03bacd33705ee5c3d8086752ed4ec6809a1b6c586b991caa744229c4f4110823", func := "kitbag/kitbaglaw21.OrderCycle", spec := "orderCycle", inPlace := ["internal/abi.NoEscape"], unfollowed := true, recurses := true, loops := true, apart := false }
def OrderCycleSaid : Prop := orderCycleRow.holds Tryz.pinned (OpenSpec.ofChange orderCycleSpec)

/-- ITS FALSE NEIGHBOUR: 'it returns false'. Refute it at one input. -/
def orderCycleWrong : ChangeSpec := { name := "orderCycle", fn := fun _ => fun
  | [d] => { results := [.lit (.bool false)], args := [d] }
  | _ => none }
def OrderCycleWrongFalsely : Prop := orderCycleRow.holds Tryz.pinned (OpenSpec.ofChange orderCycleWrong)

/-- 'kitbaglaw21.OrderExpands': WHATEVER THE INPUT: true; the input reads as it did. -/
def orderExpandsSpec : ChangeSpec := { name := "orderExpands", fn := fun _ => fun
  | [d] => { results := [.lit (.bool true)], args := [d] }
  | _ => none }
def orderExpandsRow : OpenClaim := { program := "ytjjblfbofinlkaagreat", sum := "03bacd33705ee5c3d8086752ed4ec6809a1b6c586b991caa744229c4f4110823", func := "kitbag/kitbaglaw21.OrderExpands", spec := "orderExpands", inPlace := ["internal/abi.NoEscape"], unfollowed := true, recurses := true, loops := true, apart := false }
def OrderExpandsSaid : Prop := orderExpandsRow.holds Tryz.pinned (OpenSpec.ofChange orderExpandsSpec)

/-- ITS FALSE NEIGHBOUR: 'it returns false'. Refute it at one input. -/
def orderExpandsWrong : ChangeSpec := { name := "orderExpands", fn := fun _ => fun
  | [d] => { results := [.lit (.bool false)], args := [d] }
  | _ => none }
def OrderExpandsWrongFalsely : Prop := orderExpandsRow.holds Tryz.pinned (OpenSpec.ofChange orderExpandsWrong)

/-- 'kitbaglaw21.OrderMore': WHATEVER THE INPUT: true; the input reads as it did. -/
def orderMoreSpec : ChangeSpec := { name := "orderMore", fn := fun _ => fun
  | [d1, d2] => { results := [.lit (.bool true)], args := [d1, d2] }
  | _ => none }
def orderMoreRow : OpenClaim := { program := "ytjjblfbofinlkaagreat", sum := "03bacd33705ee5c3d8086752ed4ec6809a1b6c586b991caa744229c4f4110823", func := "kitbag/kitbaglaw21.OrderMore", spec := "orderMore", inPlace := ["internal/abi.NoEscape"], unfollowed := true, recurses := true, loops := true, apart := false }
def OrderMoreSaid : Prop := orderMoreRow.holds Tryz.pinned (OpenSpec.ofChange orderMoreSpec)

/-- ITS FALSE NEIGHBOUR: 'it returns false'. Refute it at one input. -/
def orderMoreWrong : ChangeSpec := { name := "orderMore", fn := fun _ => fun
  | [d1, d2] => { results := [.lit (.bool false)], args := [d1, d2] }
  | _ => none }
def OrderMoreWrongFalsely : Prop := orderMoreRow.holds Tryz.pinned (OpenSpec.ofChange orderMoreWrong)

/-- 'kitbaglaw21.OrderTurns': WHATEVER THE INPUT: true; the input reads as it did. -/
def orderTurnsSpec : ChangeSpec := { name := "orderTurns", fn := fun _ => fun
  | [d] => { results := [.lit (.bool true)], args := [d] }
  | _ => none }
def orderTurnsRow : OpenClaim := { program := "ytjjblfbofinlkaagreat", sum := "03bacd33705ee5c3d8086752ed4ec6809a1b6c586b991caa744229c4f4110823", func := "kitbag/kitbaglaw21.OrderTurns", spec := "orderTurns", inPlace := ["internal/abi.NoEscape"], unfollowed := true, recurses := true, loops := true, apart := false }
def OrderTurnsSaid : Prop := orderTurnsRow.holds Tryz.pinned (OpenSpec.ofChange orderTurnsSpec)

/-- ITS FALSE NEIGHBOUR: 'it returns false'. Refute it at one input. -/
def orderTurnsWrong : ChangeSpec := { name := "orderTurns", fn := fun _ => fun
  | [d] => { results := [.lit (.bool false)], args := [d] }
  | _ => none }
def OrderTurnsWrongFalsely : Prop := orderTurnsRow.holds Tryz.pinned (OpenSpec.ofChange orderTurnsWrong)

/- THE SECOND FORM. 'bulk': how many values and letters a reading holds, each counted each time it is reached (what is shared counts as often as it is met; a slice's spare places count too). A statement '..UptoSaid' is the law's where the arguments, and the package variables that the reading takes, are together of bulk at most 1048576: NARROWER than '..Said'. Prove '..Said' where nothing that the law and all that it calls make is longer than what came in: it says more and counts as full. Else prove '..UptoSaid'. A law counts once. -/
mutual
def uptoBulk {H : Type} : DataW H → Nat
  | .lit (.string bytes) => bytes.length + 1
  | .lit _ => 1
  | .nil => 1
  | .ptr d => uptoBulk d + 1
  | .slice elems spare => uptoBulkAll elems + uptoBulkAll spare + 1
  | .agg parts => uptoBulkAll parts + 1
  | .iface _ d => uptoBulk d + 1
  | .map entries => uptoBulkEntries entries + 1
  | .held _ => 1
def uptoBulkAll {H : Type} : List (DataW H) → Nat
  | [] => 0
  | d :: r => uptoBulk d + uptoBulkAll r
def uptoBulkEntries {H : Type} : List (Lit × DataW H) → Nat
  | [] => 0
  | x :: r => uptoBulkEntry x + uptoBulkEntries r
def uptoBulkEntry {H : Type} : Lit × DataW H → Nat
  | (.string bytes, d) => bytes.length + uptoBulk d + 1
  | (_, d) => uptoBulk d + 1
 end
def uptoSmall : (H : Type) → List (DataW H) → Bool := fun _ ds => decide (uptoBulkAll ds ≤ 1048576)
def OpenSpec.upto (s : _root_.Go.ChangeSpec) : _root_.Go.OpenSpec := { _root_.Go.OpenSpec.ofChange s with cond := some uptoSmall }

/-- 'kitbaglaw21.OrderTells', WHERE WHAT IT READS IS OF BULK AT MOST 1048576: true; the input reads as it did. -/
def orderTellsUptoRow : OpenClaim := { program := "ytjjblfbofinlkaagreat", sum := "03bacd33705ee5c3d8086752ed4ec6809a1b6c586b991caa744229c4f4110823", func := "kitbag/kitbaglaw21.OrderTells", spec := "orderTells", inPlace := ["internal/abi.NoEscape"], unfollowed := true, recurses := true, loops := true, apart := false, narrowed := true }
def OrderTellsUptoSaid : Prop := orderTellsUptoRow.holds Tryz.pinned (OpenSpec.upto orderTellsSpec)

/-- 'kitbaglaw21.OrderLeast', WHERE WHAT IT READS IS OF BULK AT MOST 1048576: true; the input reads as it did. -/
def orderLeastUptoRow : OpenClaim := { program := "ytjjblfbofinlkaagreat", sum := "03bacd33705ee5c3d8086752ed4ec6809a1b6c586b991caa744229c4f4110823", func := "kitbag/kitbaglaw21.OrderLeast", spec := "orderLeast", inPlace := ["internal/abi.NoEscape"], unfollowed := true, recurses := true, loops := true, apart := false, narrowed := true }
def OrderLeastUptoSaid : Prop := orderLeastUptoRow.holds Tryz.pinned (OpenSpec.upto orderLeastSpec)

/-- 'kitbaglaw21.OrderCycle', WHERE WHAT IT READS IS OF BULK AT MOST 1048576: true; the input reads as it did. -/
def orderCycleUptoRow : OpenClaim := { program := "ytjjblfbofinlkaagreat", sum := "03bacd33705ee5c3d8086752ed4ec6809a1b6c586b991caa744229c4f4110823", func := "kitbag/kitbaglaw21.OrderCycle", spec := "orderCycle", inPlace := ["internal/abi.NoEscape"], unfollowed := true, recurses := true, loops := true, apart := false, narrowed := true }
def OrderCycleUptoSaid : Prop := orderCycleUptoRow.holds Tryz.pinned (OpenSpec.upto orderCycleSpec)

/-- 'kitbaglaw21.OrderExpands', WHERE WHAT IT READS IS OF BULK AT MOST 1048576: true; the input reads as it did. -/
def orderExpandsUptoRow : OpenClaim := { program := "ytjjblfbofinlkaagreat", sum := "03bacd33705ee5c3d8086752ed4ec6809a1b6c586b991caa744229c4f4110823", func := "kitbag/kitbaglaw21.OrderExpands", spec := "orderExpands", inPlace := ["internal/abi.NoEscape"], unfollowed := true, recurses := true, loops := true, apart := false, narrowed := true }
def OrderExpandsUptoSaid : Prop := orderExpandsUptoRow.holds Tryz.pinned (OpenSpec.upto orderExpandsSpec)

/-- 'kitbaglaw21.OrderMore', WHERE WHAT IT READS IS OF BULK AT MOST 1048576: true; the input reads as it did. -/
def orderMoreUptoRow : OpenClaim := { program := "ytjjblfbofinlkaagreat", sum := "03bacd33705ee5c3d8086752ed4ec6809a1b6c586b991caa744229c4f4110823", func := "kitbag/kitbaglaw21.OrderMore", spec := "orderMore", inPlace := ["internal/abi.NoEscape"], unfollowed := true, recurses := true, loops := true, apart := false, narrowed := true }
def OrderMoreUptoSaid : Prop := orderMoreUptoRow.holds Tryz.pinned (OpenSpec.upto orderMoreSpec)

/-- 'kitbaglaw21.OrderTurns', WHERE WHAT IT READS IS OF BULK AT MOST 1048576: true; the input reads as it did. -/
def orderTurnsUptoRow : OpenClaim := { program := "ytjjblfbofinlkaagreat", sum := "03bacd33705ee5c3d8086752ed4ec6809a1b6c586b991caa744229c4f4110823", func := "kitbag/kitbaglaw21.OrderTurns", spec := "orderTurns", inPlace := ["internal/abi.NoEscape"], unfollowed := true, recurses := true, loops := true, apart := false, narrowed := true }
def OrderTurnsUptoSaid : Prop := orderTurnsUptoRow.holds Tryz.pinned (OpenSpec.upto orderTurnsSpec)

end Rows
end Go.Proofs.YtjjblfbofinlkaaGreat
