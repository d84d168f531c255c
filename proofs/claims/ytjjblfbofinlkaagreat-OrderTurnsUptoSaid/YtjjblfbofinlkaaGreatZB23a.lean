/- Texts for the claim, put together: the calculus of regions, its rules, and contracts of the functions that the law reaches. -/
import Derived.Test.YtjjblfbofinlkaaGreatZBwg
import Derived.Test.YtjjblfbofinlkaaGreatZB0123a
import Derived.Test.YtjjblfbofinlkaaGreatZB0234a
import Derived.Test.YtjjblfbofinlkaaGreatZB1234a
import Derived.Test.YtjjblfbofinlkaaGreatZB234a
set_option linter.all false
set_option maxRecDepth 10000
namespace Kb
open Go
namespace Zl
open Fx Sx Zc Zd Zo
theorem mem_row {C:List CE} (hn:(C.map (·.1)).Nodup) {e:Ex} {k:Int}:k ∈ row (ixE C) C.length e↔(0≤k∧k < (C.length:Int))∧Zu.nmd (C.getD k.toNat default).1 e=true:=by
 rw [row_names hn,List.mem_filter];constructor
 ·rintro ⟨h1,h2⟩;obtain ⟨j,hj,rfl⟩:=List.mem_map.1 h1;have hj:=List.mem_range.1 hj;exact ⟨by show 0≤(j:Int)∧(j:Int) < _;omega,h2⟩
 ·rintro ⟨h1,h2⟩;exact ⟨List.mem_map.2 ⟨k.toNat,List.mem_range.2 (by omega),by show ((k.toNat:Nat):Int)=k;omega⟩,h2⟩
theorem mem_gr {F:List FE} {C:List CE} (hn:(C.map (·.1)).Nodup) {i k:Int} (h0:0≤i) (hi:i < (C.length:Int)):k ∈ rw_ (grE F C) i↔(0≤k∧k < (C.length:Int))∧Zu.nmd (C.getD k.toNat default).1 (xpd F (C.getD i.toNat default).2.2).1=true:=by
 show k ∈ (grE F C).getD i.toNat []↔_;rw [grE_at F (by omega),mem_row hn]
end Zl
end Kb
