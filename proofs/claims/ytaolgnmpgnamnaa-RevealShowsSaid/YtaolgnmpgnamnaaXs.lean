/- The law RevealShows holds: whatever the input, the call returns true and every argument reads as it did. The walk is in the texts imported; here it is brought into the row. -/
import Derived.Test.YtaolgnmpgnamnaaRows
import Derived.ProofKit
import Derived.OpenShut
import Derived.Test.YtaolgnmpgnamnaaOp
import Derived.Test.YtaolgnmpgnamnaaKl
import Derived.Test.YtaolgnmpgnamnaaWb
namespace Go.Proofs.Ytaolgnmpgnamnaa.revealShows
open Go.ChangeShapes Go.WideShapes Go.ChangeAt Go.RowKit
set_option linter.unusedVariables false

theorem own : ownKnob Try.prog.godebug = none := by kernel_rfl
theorem laid : laidOutB Try.prog = true := by kernel_rfl

set_option maxRecDepth 100000 in
theorem lifted (os : Os) (started : os.Started) (H : Type) (enc : TypeId × Value → H) :
    ReturnsInHanded {} Try.checked os 9 .any (Rows.revealShowsSpec.pre6 enc Try.prog Try.f9 Rows.revealShowsRow.domain false) (Rows.revealShowsSpec.post enc Try.prog Try.f9 false true false false) := by
  refine returnsInHanded_of_change (C := Try.checked) own started (by kernel_rfl) Try.func9
    (ChangeSpec.witness6 (enc := enc) (C := Try.checked) false ⟨#[], #[.agg #[.slice none 0 0], .slice none 0 0, .slice none 0 0, .slice none 0 0, .slice none 0 0], []⟩ 8 (by kernel_rfl) (by kernel_rfl) (by kernel_rfl) (by kernel_rfl)) ?_
  intro W base args ds gs before hval0 hW hcnd _
  have hval : ∀ (j : Nat) t v, Try.f9.params[j]? = some t → args[j]? = some v → Value.okWide Try.prog W .any base t v := hval0
  have hW' := hW
  obtain ⟨p, q, hA0, hV, rfl, hfz, hnd⟩ := hW
  have hA : DataW.TrodAll enc Try.prog W 0 (fun _ => true) true Try.f9.params.toList args.toList ds p := hA0
  rw [Try.params9] at hA hval
  obtain ⟨v0, vs0, d0, ds0, p0, q0, hargs, rfl, rfl, h0, r0⟩ := trodAll_cons hA
  obtain ⟨v1, vs1, d1, ds1, p1, q1, rfl, rfl, rfl, h1, r1⟩ := trodAll_cons r0
  obtain ⟨v2, vs2, d2, ds2, p2, q2, rfl, rfl, rfl, h2, r2⟩ := trodAll_cons r1
  obtain ⟨v3, vs3, d3, ds3, p3, q3, rfl, rfl, rfl, h3, r3⟩ := trodAll_cons r2
  obtain ⟨v4, vs4, d4, ds4, p4, q4, rfl, rfl, rfl, h4, r4⟩ := trodAll_cons r3
  obtain ⟨rfl, rfl, rfl⟩ := trodAll_nil r4
  obtain rfl : args = #[v0, v1, v2, v3, v4] := by cases args; simp_all
  obtain ⟨rfl, rfl⟩ := trodVars_none hV
  obtain ⟨a0, u0, rfl, y0⟩ := Kb.arg_box Try.underlying24 (by kernel_rfl) rfl rfl Try.underlying22 (by kernel_rfl) (Kb.opens_44 W) (hval 0 24 v0 rfl rfl) h0
  obtain ⟨a1, u1, rfl, y1⟩ := Kb.arg_slice Try.underlying25 (Kb.opens_string Try.underlying9 (by kernel_rfl)) (hval 1 25 v1 rfl rfl) h1
  obtain ⟨a2, u2, rfl, y2⟩ := Kb.arg_slice Try.underlying26 (Kb.opens_int Try.underlying3 (by kernel_rfl)) (hval 2 26 v2 rfl rfl) h2
  obtain ⟨a3, u3, rfl, y3⟩ := Kb.arg_slice Try.underlying26 (Kb.opens_int Try.underlying3 (by kernel_rfl)) (hval 3 26 v3 rfl rfl) h3
  obtain ⟨a4, u4, rfl, y4⟩ := Kb.arg_slice Try.underlying57 (Kb.opens_u8 Try.underlying5 (by kernel_rfl)) (hval 4 57 v4 rfl rfl) h4
  refine (Kb.Cp.law (Kb.shows_ct a0 u0 a1 u1 a2 u2 a3 u3 a4 u4 ) W ⟨y0, y1, y2, y3, y4, trivial⟩).mono fun e W' ⟨he, hg⟩ => ?_
  subst he
  exact ⟨_, rfl, Kb.law_post (pv := []) hW' (fun _ _ _ => (trodAll_cons_mk (shut_bool Try.underlying4 _) trodAll_mk0)) (fun sp hs => Kb.keep_all laid hg.below (by kernel_rfl) hA0 (fun x hx => hW'.lt x (List.mem_append_left _ hx)) sp fun x hx => hs x (List.mem_append_left _ hx)) (fun _ _ => rfl) rfl hg (ok_one (by kernel_rfl) rfl (okWide_bool_mk Try.underlying4 _))⟩

theorem over : Rows.revealShowsRow.holds Try.pinned (OpenSpec.ofChange Rows.revealShowsSpec) :=
  OpenClaim.holds_of_wide 9 Try.f9 rfl rfl rfl rfl rfl rfl rfl ⟨rfl, rfl, rfl, rfl, rfl⟩ rfl rfl rfl rfl rfl (by kernel_rfl) Try.func9 (by kernel_rfl)
    (of_decide_eq_true (by kernel_rfl)) (by unfold Func.isWrapper; first | (rw [if_pos (by decide +kernel)]; kernel_rfl) | (rw [if_neg (by decide +kernel)]; exact ⟨rfl, rfl⟩))
    (fun os started H enc _ => lifted os started H enc)

theorem proved : Rows.RevealShowsSaid :=
  over
#print axioms proved
end Go.Proofs.Ytaolgnmpgnamnaa.revealShows
