/- Texts for the claim, put together: the calculus of regions, its rules, and contracts of the functions that the law reaches. -/
import Derived.Test.YtpnbgdgjgndicaaZvwg
import Derived.Test.YtpnbgdgjgndicaaZv013a
import Derived.Laws.Cover3
set_option linter.unusedVariables false
set_option linter.unusedSectionVars false
set_option linter.unusedSimpArgs false
namespace Kb
open Go
theorem iFT : false = true ↔ False := by simp
theorem iFF : false = false ↔ True := by simp

open Go
namespace Tb
open Fr Bg
theorem int_lt {a b : Int} : (a : Rat) < (b : Rat) ↔ a < b := Rat.intCast_lt_intCast
end Tb

open Go
namespace Tb
open Fr Bg
theorem aft_key {l : List DRow} {i : Nat} (h : So l) (hi : i < l.length) : aft l (ky l i : Rat) = i + 1 := aft_row h hi Rat.le_refl fun h3 => int_lt.2 (h.1 i (i + 1) (by omega) h3)
end Tb
end Kb
