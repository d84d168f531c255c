/- Texts for the claim, put together: the calculus of regions, its rules, and contracts of the functions that the law reaches. -/
import Derived.Test.YtjjblfbofinlkaaGreatZBwg
import Derived.Test.YtjjblfbofinlkaaGreatZB0234a
import Derived.Laws.Cover3
set_option linter.all false
set_option maxRecDepth 10000
namespace Kb
open Go
theorem iQT {a b:Bool} {P Q:Prop} (h:a=true↔P) (k:b=true↔Q):(a == b)=true↔(P↔Q):=by rw [beq_iff_eq,Bool.eq_iff_iff,h,k]
theorem iQF {a b:Bool} {P Q:Prop} (h:a=true↔P) (k:b=true↔Q):(a == b)=false↔¬ (P↔Q):=by rw [←Bool.not_eq_true,iQT h k]
end Kb
