/- Texts for the claim, put together: the calculus of regions, its rules, and contracts of the functions that the law reaches. -/
import Derived.Test.YtjjblfbofinlkaaGreatZBwg
import Derived.Test.YtjjblfbofinlkaaGreatZB0234a
import Derived.Test.YtjjblfbofinlkaaGreatZB034a
set_option linter.all false
set_option maxRecDepth 10000
namespace Kb
open Go
namespace Zo
theorem ord_at {G:List (List Int)} {i v:Int} (h0:0≤i) (hi:i < ((ord G).length:Int)) (hv:v=(ord G).getD i.toNat default) :
  (0≤v∧v < (G.length:Int))∧v ∉ (ord G).take i.toNat∧((rw_ G v).all fun y=>decide (y ∈ (ord G).take i.toNat))=true:=by
 have h:=(ord_beg G).rdy (k:=i.toNat) (by omega);have e:(ord G).getD i.toNat 0=v:=hv.symm;rw [e] at h;exact ⟨h.1,h.2.1,List.all_eq_true.2 fun y hy=>decide_eq_true (h.2.2 y hy)⟩
end Zo
end Kb
