/- Texts for the claim, put together: the calculus of regions, its rules, and contracts of the functions that the law reaches. -/
import Derived.Test.YtpnbgdgjgndicaaZuwf
set_option linter.unusedVariables false
set_option linter.unusedSectionVars false
set_option linter.unusedSimpArgs false
namespace Kb
open Go
namespace Un
open Fr Bg
theorem UR.pos {d : List Int} {ps qs : Int} {pd qd : List Int} (h : UR d ps pd qs qd) : 0 < fq ps pd qd := by
  have := h.2.1.eqs.1
  have h0 := h.2.2
  rw [this] at h0
  exact sgn_num.2.2.1 h0
end Un
end Kb
