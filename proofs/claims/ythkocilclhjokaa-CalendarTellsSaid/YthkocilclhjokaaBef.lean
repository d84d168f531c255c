/- The contract of calendar.before: it lays an array of its own and reads one of its cells. -/
import Derived.Test.YthkocilclhjokaaRows
import Derived.Test.YthkocilclhjokaaMath
import Derived.Test.YthkocilclhjokaaKa
import Derived.WalkKit
import Derived.Handy
namespace Go.Proofs.Ythkocilclhjokaa
open Go.RowKit
set_option maxHeartbeats 4000000 in
theorem before_below (m : Int) (w : World) (h0 : 0 ≤ m) (h1 : m ≤ 11) :
    Calls Try.prog 21 #[.int .i64 m] w fun e w' => e = .returned (.int .i64 (Cal.bef m)) ∧ Below w.heap.size w w' := by
  have hm : m = 0 ∨ m = 1 ∨ m = 2 ∨ m = 3 ∨ m = 4 ∨ m = 5 ∨ m = 6 ∨ m = 7 ∨ m = 8 ∨ m = 9 ∨ m = 10 ∨ m = 11 := by omega
  rcases hm with rfl | rfl | rfl | rfl | rfl | rfl | rfl | rfl | rfl | rfl | rfl | rfl
  all_goals
    go_enter Try.func21, Try.ntmps21
    go_wp2
    go_ret
    exact ⟨rfl, by go_grown⟩
theorem before_ct (m : Int) (h0 : 0 ≤ m) (h1 : m ≤ 11) (w : World) : Calls Try.prog 21 #[.int .i64 m] w fun e w' => e = .returned (.int .i64 (Cal.bef m)) ∧ Kb.Base [] w w' :=
  (before_below m w h0 h1).mono fun _ _ ⟨a, b⟩ => ⟨a, Kb.Base.of_below b⟩
end Go.Proofs.Ythkocilclhjokaa
