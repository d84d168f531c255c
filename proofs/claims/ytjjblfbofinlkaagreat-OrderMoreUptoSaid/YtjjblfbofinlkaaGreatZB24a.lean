/- Texts for the claim, put together: the calculus of regions, its rules, and contracts of the functions that the law reaches. -/
import Derived.Test.YtjjblfbofinlkaaGreatZBwg
import Derived.Test.YtjjblfbofinlkaaGreatZB0234a
import Derived.Test.YtjjblfbofinlkaaGreatZB1234a
import Derived.Test.YtjjblfbofinlkaaGreatZB234a
set_option linter.all false
set_option maxRecDepth 10000
namespace Kb
open Go
namespace Zl
open Fx Sx Zc Zd Zo
theorem grE_len (F:List FE) (C:List CE):(grE F C).length=C.length:=by simp [grE,exX]
end Zl
end Kb
