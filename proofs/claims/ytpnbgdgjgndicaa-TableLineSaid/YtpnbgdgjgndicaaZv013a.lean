/- Texts for the claim, put together: the calculus of regions, its rules, and contracts of the functions that the law reaches. -/
import Derived.Test.YtpnbgdgjgndicaaZvwg
set_option linter.unusedVariables false
set_option linter.unusedSectionVars false
set_option linter.unusedSimpArgs false
namespace Kb
open Go
namespace Tb
open Fr Bg
theorem aft_row {l : List DRow} {q : Rat} {i : Nat} (h : So l) (hi : i < l.length) (h1 : (ky l i : Rat) ≤ q) (h2 : i + 1 < l.length → q < (ky l (i + 1) : Rat)) : aft l q = i + 1 :=
  aft_at (by omega) (fun k hk => h.lo (b := i) (by omega) hi h1) (by rcases Nat.lt_or_ge (i + 1) l.length with h | h; exact .inr (h2 h); exact .inl (by omega))
theorem lk_row {un : ByteArray} {l : List DRow} {q : Rat} {i : Nat} (h : aft l q = i + 1) : lkR un l q = wv un l i := by unfold lkR; rw [h, Nat.add_sub_cancel]
end Tb
end Kb
