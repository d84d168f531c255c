/- How this program's structs open. -/
import Derived.Test.YtaolgnmpgnamnaaKw
import Derived.Test.YtaolgnmpgnamnaaDt
import Derived.Test.YtaolgnmpgnamnaaChecked
namespace Kb
open Go Go.Proofs
theorem opens_44 (w : World) : Opens Try.prog w 44 DThing := ⟨by kernel_rfl, by decide, fun {_ _ _ _ _ _ cs _} h => by
  have hl : cs.length = 5 := (struct_len Try.underlying44 h).trans (by kernel_rfl)
  obtain ⟨y0, e0, g0⟩ := Opens.field Try.underlying44 h 0 rfl (Kb.opens_string Try.underlying9 (by kernel_rfl))
  obtain ⟨y1, e1, g1⟩ := Opens.field Try.underlying44 h 1 rfl (Kb.opens_int Try.underlying3 (by kernel_rfl))
  obtain ⟨y2, e2, g2⟩ := Opens.field Try.underlying44 h 2 rfl (Kb.opens_int Try.underlying3 (by kernel_rfl))
  obtain ⟨y3, e3, g3⟩ := Opens.field Try.underlying44 h 3 rfl (Kb.opens_int Try.underlying3 (by kernel_rfl))
  obtain ⟨y4, e4, g4⟩ := Opens.field Try.underlying44 h 4 rfl (Kb.opens_int Try.underlying3 (by kernel_rfl))
  obtain ⟨c0, c1, c2, c3, c4, rfl⟩ : ∃ c0 c1 c2 c3 c4, cs = [c0, c1, c2, c3, c4] := by
    rcases cs with _ | ⟨c0, _ | ⟨c1, _ | ⟨c2, _ | ⟨c3, _ | ⟨c4, _ | ⟨_, _⟩⟩⟩⟩⟩⟩
    all_goals first | exact ⟨_, _, _, _, _, rfl⟩ | (simp at hl; done) | (simp at hl; omega)
  simp [Dat.cells, Dat.size] at e0 e1 e2 e3 e4
  refine ⟨⟨y0, y1, y2, y3, y4⟩, ?_, trivial⟩
  simp [Dat.cells, e0, e1, e2, e3, e4]⟩
end Kb
