/- The law UnitTells holds: whatever the input, the call returns true and every argument reads as it did. The walk is in the texts imported; here it is brought into the row. -/
import Derived.Test.YtpnbgdgjgndicaaGreatZwwf
import Derived.Test.YtpnbgdgjgndicaaGreatZw0b
import Derived.Test.YtpnbgdgjgndicaaGreatRows
import Derived.ProofKit
import Derived.OpenShut
namespace Go.Proofs.YtpnbgdgjgndicaaGreat.unitTells
open Go.ChangeShapes Go.WideShapes Go.ChangeAt Go.RowKit
set_option linter.unusedVariables false

theorem own : ownKnob Tryz.prog.godebug = none := by kernel_rfl
theorem laid : laidOutB Tryz.prog = true := by kernel_rfl

set_option maxRecDepth 100000 in
theorem lifted (os : Os) (started : os.Started) (H : Type) (enc : TypeId × Value → H) :
    ReturnsInHanded {} Tryz.checked os 4 .any (Rows.unitTellsSpec.pre6 enc Tryz.prog Tryz.f4 Rows.unitTellsRow.domain false) (Rows.unitTellsSpec.post enc Tryz.prog Tryz.f4 false true false false) := by
  refine returnsInHanded_of_change (C := Tryz.checked) own started (by kernel_rfl) Tryz.func4
    (ChangeSpec.witness6 (enc := enc) (C := Tryz.checked) false ⟨#[], #[.string ByteArray.empty, .agg #[.int .i64 0, .int .i64 0, .int .i64 0, .int .i64 0, .int .i64 0, .int .i64 0, .int .i64 0, .slice none 0 0, .int .i64 0, .slice none 0 0], .agg #[.int .i64 0, .int .i64 0, .int .i64 0, .int .i64 0, .int .i64 0, .int .i64 0, .int .i64 0, .slice none 0 0, .int .i64 0, .slice none 0 0], .agg #[.int .i64 0, .slice none 0 0, .int .i64 0, .slice none 0 0]], []⟩ 8 (by kernel_rfl) (by kernel_rfl) (by kernel_rfl) (by kernel_rfl)) ?_
  intro W base args ds gs before hval0 hW hcnd _
  have hval : ∀ (j : Nat) t v, Tryz.f4.params[j]? = some t → args[j]? = some v → Value.okWide Tryz.prog W .any base t v := hval0
  have hW' := hW
  obtain ⟨p, q, hA0, hV, rfl, hfz, hnd⟩ := hW
  have hA : DataW.TrodAll enc Tryz.prog W 0 (fun _ => true) true Tryz.f4.params.toList args.toList ds p := hA0
  rw [Tryz.params4] at hA hval
  obtain ⟨v0, vs0, d0, ds0, p0, q0, hargs, rfl, rfl, h0, r0⟩ := trodAll_cons hA
  obtain ⟨v1, vs1, d1, ds1, p1, q1, rfl, rfl, rfl, h1, r1⟩ := trodAll_cons r0
  obtain ⟨v2, vs2, d2, ds2, p2, q2, rfl, rfl, rfl, h2, r2⟩ := trodAll_cons r1
  obtain ⟨v3, vs3, d3, ds3, p3, q3, rfl, rfl, rfl, h3, r3⟩ := trodAll_cons r2
  obtain ⟨rfl, rfl, rfl⟩ := trodAll_nil r3
  obtain rfl : args = #[v0, v1, v2, v3] := by cases args; simp_all
  obtain ⟨rfl, rfl⟩ := trodVars_none hV
  obtain ⟨a0, rfl, w0⟩ := Kb.arg_string Tryz.underlying9 (hval 0 9 v0 rfl rfl) h0
  obtain ⟨x1, rfl, y1⟩ := Kb.arg_agg Tryz.underlying42 (Kb.opens_42 W) (hval 1 42 v1 rfl rfl) h1
  obtain ⟨⟨a1_0_0, a1_0_1, a1_0_2, a1_0_3, a1_0_4, a1_0_5⟩, ⟨⟨a1_1_0_0, ⟨a1_1_0_1, a1_1_0_1u⟩⟩, ⟨a1_1_1_0, ⟨a1_1_1_1, a1_1_1_1u⟩⟩⟩⟩ := x1
  obtain ⟨x2, rfl, y2⟩ := Kb.arg_agg Tryz.underlying42 (Kb.opens_42 W) (hval 2 42 v2 rfl rfl) h2
  obtain ⟨⟨a2_0_0, a2_0_1, a2_0_2, a2_0_3, a2_0_4, a2_0_5⟩, ⟨⟨a2_1_0_0, ⟨a2_1_0_1, a2_1_0_1u⟩⟩, ⟨a2_1_1_0, ⟨a2_1_1_1, a2_1_1_1u⟩⟩⟩⟩ := x2
  obtain ⟨x3, rfl, y3⟩ := Kb.arg_agg Tryz.underlying29 (Kb.opens_29 W) (hval 3 29 v3 rfl rfl) h3
  obtain ⟨⟨a3_0_0, ⟨a3_0_1, a3_0_1u⟩⟩, ⟨a3_1_0, ⟨a3_1_1, a3_1_1u⟩⟩⟩ := x3
  refine (Kb.Cp.law (Kb.utells_ct a0 a1_0_0 a1_0_1 a1_0_2 a1_0_3 a1_0_4 a1_0_5 a1_1_0_0 a1_1_0_1 a1_1_0_1u a1_1_1_0 a1_1_1_1 a1_1_1_1u a2_0_0 a2_0_1 a2_0_2 a2_0_3 a2_0_4 a2_0_5 a2_1_0_0 a2_1_0_1 a2_1_0_1u a2_1_1_0 a2_1_1_1 a2_1_1_1u a3_0_0 a3_0_1 a3_0_1u a3_1_0 a3_1_1 a3_1_1u ) W ⟨y1.1, y1.2, y2.1, y2.2, y3.1, y3.2, trivial⟩).mono fun e W' ⟨he, hg⟩ => ?_
  subst he
  exact ⟨_, rfl, Kb.law_post (pv := []) hW' (fun _ _ _ => (trodAll_cons_mk (shut_bool Tryz.underlying4 _) trodAll_mk0)) (fun sp hs => Kb.keep_all laid hg.below (by kernel_rfl) hA0 (fun x hx => hW'.lt x (List.mem_append_left _ hx)) sp fun x hx => hs x (List.mem_append_left _ hx)) (fun _ _ => rfl) rfl hg (ok_one (by kernel_rfl) rfl (okWide_bool_mk Tryz.underlying4 _))⟩

theorem over : Rows.unitTellsRow.holds Tryz.pinned (OpenSpec.ofChange Rows.unitTellsSpec) :=
  OpenClaim.holds_of_wide 4 Tryz.f4 rfl rfl rfl rfl rfl rfl rfl ⟨rfl, rfl, rfl, rfl, rfl⟩ rfl rfl rfl rfl rfl (by kernel_rfl) Tryz.func4 (by kernel_rfl)
    (of_decide_eq_true (by kernel_rfl)) (by unfold Func.isWrapper; first | (rw [if_pos (by decide +kernel)]; kernel_rfl) | (rw [if_neg (by decide +kernel)]; exact ⟨rfl, rfl⟩))
    (fun os started H enc _ => lifted os started H enc)

theorem proved : Rows.UnitTellsSaid :=
  over
#print axioms proved
end Go.Proofs.YtpnbgdgjgndicaaGreat.unitTells
