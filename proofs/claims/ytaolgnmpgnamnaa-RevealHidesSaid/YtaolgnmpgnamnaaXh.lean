/- The law RevealHides holds: whatever the input, the call returns true and every argument reads as it did. The walk is in the texts imported; here it is brought into the row. -/
import Derived.Test.YtaolgnmpgnamnaaRows
import Derived.ProofKit
import Derived.OpenShut
import Derived.Test.YtaolgnmpgnamnaaOp
import Derived.Test.YtaolgnmpgnamnaaKl
import Derived.Test.YtaolgnmpgnamnaaWc
namespace Go.Proofs.Ytaolgnmpgnamnaa.revealHides
open Go.ChangeShapes Go.WideShapes Go.ChangeAt Go.RowKit
set_option linter.unusedVariables false

theorem own : ownKnob Try.prog.godebug = none := by kernel_rfl
theorem laid : laidOutB Try.prog = true := by kernel_rfl

set_option maxRecDepth 100000 in
theorem lifted (os : Os) (started : os.Started) (H : Type) (enc : TypeId × Value → H) :
    ReturnsInHanded {} Try.checked os 11 .any (Rows.revealHidesSpec.pre6 enc Try.prog Try.f11 Rows.revealHidesRow.domain false) (Rows.revealHidesSpec.post enc Try.prog Try.f11 false true false false) := by
  refine returnsInHanded_of_change (C := Try.checked) own started (by kernel_rfl) Try.func11
    (ChangeSpec.witness6 (enc := enc) (C := Try.checked) false ⟨#[], #[.agg #[.slice none 0 0], .slice none 0 0, .slice none 0 0, .slice none 0 0, .slice none 0 0, .slice none 0 0, .slice none 0 0, .slice none 0 0], []⟩ 8 (by kernel_rfl) (by kernel_rfl) (by kernel_rfl) (by kernel_rfl)) ?_
  intro W base args ds gs before hval0 hW hcnd _
  have hval : ∀ (j : Nat) t v, Try.f11.params[j]? = some t → args[j]? = some v → Value.okWide Try.prog W .any base t v := hval0
  have hW' := hW
  obtain ⟨p, q, hA0, hV, rfl, hfz, hnd⟩ := hW
  have hA : DataW.TrodAll enc Try.prog W 0 (fun _ => true) true Try.f11.params.toList args.toList ds p := hA0
  rw [Try.params11] at hA hval
  obtain ⟨v0, vs0, d0, ds0, p0, q0, hargs, rfl, rfl, h0, r0⟩ := trodAll_cons hA
  obtain ⟨v1, vs1, d1, ds1, p1, q1, rfl, rfl, rfl, h1, r1⟩ := trodAll_cons r0
  obtain ⟨v2, vs2, d2, ds2, p2, q2, rfl, rfl, rfl, h2, r2⟩ := trodAll_cons r1
  obtain ⟨v3, vs3, d3, ds3, p3, q3, rfl, rfl, rfl, h3, r3⟩ := trodAll_cons r2
  obtain ⟨v4, vs4, d4, ds4, p4, q4, rfl, rfl, rfl, h4, r4⟩ := trodAll_cons r3
  obtain ⟨v5, vs5, d5, ds5, p5, q5, rfl, rfl, rfl, h5, r5⟩ := trodAll_cons r4
  obtain ⟨v6, vs6, d6, ds6, p6, q6, rfl, rfl, rfl, h6, r6⟩ := trodAll_cons r5
  obtain ⟨v7, vs7, d7, ds7, p7, q7, rfl, rfl, rfl, h7, r7⟩ := trodAll_cons r6
  obtain ⟨rfl, rfl, rfl⟩ := trodAll_nil r7
  obtain rfl : args = #[v0, v1, v2, v3, v4, v5, v6, v7] := by cases args; simp_all
  obtain ⟨rfl, rfl⟩ := trodVars_none hV
  obtain ⟨a0, u0, rfl, y0⟩ := Kb.arg_box Try.underlying24 (by kernel_rfl) rfl rfl Try.underlying22 (by kernel_rfl) (Kb.opens_44 W) (hval 0 24 v0 rfl rfl) h0
  obtain ⟨a1, u1, rfl, y1⟩ := Kb.arg_slice Try.underlying25 (Kb.opens_string Try.underlying9 (by kernel_rfl)) (hval 1 25 v1 rfl rfl) h1
  obtain ⟨a2, u2, rfl, y2⟩ := Kb.arg_slice Try.underlying26 (Kb.opens_int Try.underlying3 (by kernel_rfl)) (hval 2 26 v2 rfl rfl) h2
  obtain ⟨a3, u3, rfl, y3⟩ := Kb.arg_slice Try.underlying26 (Kb.opens_int Try.underlying3 (by kernel_rfl)) (hval 3 26 v3 rfl rfl) h3
  obtain ⟨a4, u4, rfl, y4⟩ := Kb.arg_slice Try.underlying25 (Kb.opens_string Try.underlying9 (by kernel_rfl)) (hval 4 25 v4 rfl rfl) h4
  obtain ⟨a5, u5, rfl, y5⟩ := Kb.arg_slice Try.underlying26 (Kb.opens_int Try.underlying3 (by kernel_rfl)) (hval 5 26 v5 rfl rfl) h5
  obtain ⟨a6, u6, rfl, y6⟩ := Kb.arg_slice Try.underlying26 (Kb.opens_int Try.underlying3 (by kernel_rfl)) (hval 6 26 v6 rfl rfl) h6
  obtain ⟨a7, u7, rfl, y7⟩ := Kb.arg_slice Try.underlying57 (Kb.opens_u8 Try.underlying5 (by kernel_rfl)) (hval 7 57 v7 rfl rfl) h7
  refine (Kb.Cp.law (Kb.rhides_ct a0 u0 a1 u1 a2 u2 a3 u3 a4 u4 a5 u5 a6 u6 a7 u7 ) W ⟨y0, y1, y2, y3, y4, y5, y6, y7, trivial⟩).mono fun e W' ⟨he, hg⟩ => ?_
  subst he
  exact ⟨_, rfl, Kb.law_post (pv := []) hW' (fun _ _ _ => (trodAll_cons_mk (shut_bool Try.underlying4 _) trodAll_mk0)) (fun sp hs => Kb.keep_all laid hg.below (by kernel_rfl) hA0 (fun x hx => hW'.lt x (List.mem_append_left _ hx)) sp fun x hx => hs x (List.mem_append_left _ hx)) (fun _ _ => rfl) rfl hg (ok_one (by kernel_rfl) rfl (okWide_bool_mk Try.underlying4 _))⟩

theorem over : Rows.revealHidesRow.holds Try.pinned (OpenSpec.ofChange Rows.revealHidesSpec) :=
  OpenClaim.holds_of_wide 11 Try.f11 rfl rfl rfl rfl rfl rfl rfl ⟨rfl, rfl, rfl, rfl, rfl⟩ rfl rfl rfl rfl rfl (by kernel_rfl) Try.func11 (by kernel_rfl)
    (of_decide_eq_true (by kernel_rfl)) (by unfold Func.isWrapper; first | (rw [if_pos (by decide +kernel)]; kernel_rfl) | (rw [if_neg (by decide +kernel)]; exact ⟨rfl, rfl⟩))
    (fun os started H enc _ => lifted os started H enc)

theorem proved : Rows.RevealHidesSaid :=
  over
#print axioms proved
end Go.Proofs.Ytaolgnmpgnamnaa.revealHides
