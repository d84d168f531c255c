/- The program may draw its orders. -/
import Derived.Test.YtmoekalfmahljaaHi
import Derived.Test.YtmoekalfmahljaaProg
namespace Kb
open Go Go.Proofs
theorem mo : Try.prog.follows .mixedOrders = true := by kernel_rfl
end Kb
