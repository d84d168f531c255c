/- The law RevealTells holds: whatever the input, the call returns true and every argument reads as it did. The walk is in the texts imported; here it is brought into the row. -/
import Derived.Test.YtelhognicgmkdaaZTwd
import Derived.Test.YtelhognicgmkdaaRows
import Derived.ProofKit
import Derived.OpenShut
namespace Go.Proofs.Ytelhognicgmkdaa.revealTells
open Go.ChangeShapes Go.WideShapes Go.ChangeAt Go.RowKit
set_option linter.unusedVariables false

theorem own : ownKnob Try.prog.godebug = none := by kernel_rfl
theorem laid : laidOutB Try.prog = true := by kernel_rfl

set_option maxRecDepth 100000 in
theorem lifted (os : Os) (started : os.Started) (H : Type) (enc : TypeId × Value → H) :
    ReturnsInHanded {} Try.checked os 3 .any (Rows.revealTellsSpec.pre6 enc Try.prog Try.f3 Rows.revealTellsRow.domain false) (Rows.revealTellsSpec.post enc Try.prog Try.f3 false true false false) := by
  refine returnsInHanded_of_change (C := Try.checked) own started (by kernel_rfl) Try.func3
    (ChangeSpec.witness6 (enc := enc) (C := Try.checked) false ⟨#[], #[.agg #[.slice none 0 0], .int .i64 0, .slice none 0 0, .slice none 0 0, .slice none 0 0, .slice none 0 0, .slice none 0 0], []⟩ 8 (by kernel_rfl) (by kernel_rfl) (by kernel_rfl) (by kernel_rfl)) ?_
  intro W base args ds gs before hval0 hW hcnd _
  have hval : ∀ (j : Nat) t v, Try.f3.params[j]? = some t → args[j]? = some v → Value.okWide Try.prog W .any base t v := hval0
  have hW' := hW
  obtain ⟨p, q, hA0, hV, rfl, hfz, hnd⟩ := hW
  have hA : DataW.TrodAll enc Try.prog W 0 (fun _ => true) true Try.f3.params.toList args.toList ds p := hA0
  rw [Try.params3] at hA hval
  obtain ⟨v0, vs0, d0, ds0, p0, q0, hargs, rfl, rfl, h0, r0⟩ := trodAll_cons hA
  obtain ⟨v1, vs1, d1, ds1, p1, q1, rfl, rfl, rfl, h1, r1⟩ := trodAll_cons r0
  obtain ⟨v2, vs2, d2, ds2, p2, q2, rfl, rfl, rfl, h2, r2⟩ := trodAll_cons r1
  obtain ⟨v3, vs3, d3, ds3, p3, q3, rfl, rfl, rfl, h3, r3⟩ := trodAll_cons r2
  obtain ⟨v4, vs4, d4, ds4, p4, q4, rfl, rfl, rfl, h4, r4⟩ := trodAll_cons r3
  obtain ⟨v5, vs5, d5, ds5, p5, q5, rfl, rfl, rfl, h5, r5⟩ := trodAll_cons r4
  obtain ⟨v6, vs6, d6, ds6, p6, q6, rfl, rfl, rfl, h6, r6⟩ := trodAll_cons r5
  obtain ⟨rfl, rfl, rfl⟩ := trodAll_nil r6
  obtain rfl : args = #[v0, v1, v2, v3, v4, v5, v6] := by cases args; simp_all
  obtain ⟨rfl, rfl⟩ := trodVars_none hV
  obtain ⟨a0, u0, rfl, y0⟩ := Kb.arg_box Try.underlying24 (by kernel_rfl) rfl rfl Try.underlying22 (by kernel_rfl) (Kb.opens_41 W) (hval 0 24 v0 rfl rfl) h0
  obtain ⟨a1, rfl, w1⟩ := Kb.arg_int Try.underlying3 (hval 1 3 v1 rfl rfl) h1
  obtain ⟨a2, u2, rfl, y2⟩ := Kb.arg_slice Try.underlying25 (Kb.opens_int Try.underlying3 (by kernel_rfl)) (hval 2 25 v2 rfl rfl) h2
  obtain ⟨a3, u3, rfl, y3⟩ := Kb.arg_slice Try.underlying26 (Kb.opens_fat Try.underlying25 (by kernel_rfl) (Kb.opens_int Try.underlying3 (by kernel_rfl))) (hval 3 26 v3 rfl rfl) h3
  obtain ⟨a4, u4, rfl, y4⟩ := Kb.arg_slice Try.underlying27 (Kb.opens_fat Try.underlying22 (by kernel_rfl) (Kb.opens_41 W)) (hval 4 27 v4 rfl rfl) h4
  obtain ⟨a5, u5, rfl, y5⟩ := Kb.arg_slice Try.underlying26 (Kb.opens_fat Try.underlying25 (by kernel_rfl) (Kb.opens_int Try.underlying3 (by kernel_rfl))) (hval 5 26 v5 rfl rfl) h5
  obtain ⟨a6, u6, rfl, y6⟩ := Kb.arg_slice Try.underlying27 (Kb.opens_fat Try.underlying22 (by kernel_rfl) (Kb.opens_41 W)) (hval 6 27 v6 rfl rfl) h6
  refine (Kb.Cp.law (Kb.rtells_ct a0 u0 a1 a2 u2 a3 u3 a4 u4 a5 u5 a6 u6 ) W ⟨y0, y2, y3, y4, y5, y6, trivial⟩).mono fun e W' ⟨he, hg⟩ => ?_
  subst he
  exact ⟨_, rfl, Kb.law_post (pv := []) hW' (fun _ _ _ => (trodAll_cons_mk (shut_bool Try.underlying4 _) trodAll_mk0)) (fun sp hs => Kb.keep_all laid hg.below (by kernel_rfl) hA0 (fun x hx => hW'.lt x (List.mem_append_left _ hx)) sp fun x hx => hs x (List.mem_append_left _ hx)) (fun _ _ => rfl) rfl hg (ok_one (by kernel_rfl) rfl (okWide_bool_mk Try.underlying4 _))⟩

theorem over : Rows.revealTellsRow.holds Try.pinned (OpenSpec.ofChange Rows.revealTellsSpec) :=
  OpenClaim.holds_of_wide 3 Try.f3 rfl rfl rfl rfl rfl rfl rfl ⟨rfl, rfl, rfl, rfl, rfl⟩ rfl rfl rfl rfl rfl (by kernel_rfl) Try.func3 (by kernel_rfl)
    (of_decide_eq_true (by kernel_rfl)) (by unfold Func.isWrapper; first | (rw [if_pos (by decide +kernel)]; kernel_rfl) | (rw [if_neg (by decide +kernel)]; exact ⟨rfl, rfl⟩))
    (fun os started H enc _ => lifted os started H enc)

theorem proved : Rows.RevealTellsSaid :=
  over
#print axioms proved
end Go.Proofs.Ytelhognicgmkdaa.revealTells
