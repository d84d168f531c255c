/- The law TableTells holds: whatever the input, the call returns true and every argument reads as it did. The walk is in the texts imported; here it is brought into the row. -/
import Derived.Test.YtpnbgdgjgndicaaGreatZwwf
import Derived.Test.YtpnbgdgjgndicaaGreatZw1b
import Derived.Test.YtpnbgdgjgndicaaGreatRows
import Derived.ProofKit
import Derived.OpenShut
namespace Go.Proofs.YtpnbgdgjgndicaaGreat.tableTells
open Go.ChangeShapes Go.WideShapes Go.ChangeAt Go.RowKit
set_option linter.unusedVariables false

theorem own : ownKnob Tryz.prog.godebug = none := by kernel_rfl
theorem laid : laidOutB Tryz.prog = true := by kernel_rfl

set_option maxRecDepth 100000 in
theorem lifted (os : Os) (started : os.Started) (H : Type) (enc : TypeId × Value → H) :
    ReturnsInHanded {} Tryz.checked os 3 .any (Rows.tableTellsSpec.pre6 enc Tryz.prog Tryz.f3 Rows.tableTellsRow.domain false) (Rows.tableTellsSpec.post enc Tryz.prog Tryz.f3 false true false false) := by
  refine returnsInHanded_of_change (C := Tryz.checked) own started (by kernel_rfl) Tryz.func3
    (ChangeSpec.witness6 (enc := enc) (C := Tryz.checked) false ⟨#[], #[.agg #[.string ByteArray.empty, .string ByteArray.empty, .slice none 0 0], .agg #[.int .i64 0, .slice none 0 0, .int .i64 0, .slice none 0 0], .int .i64 0, .int .i64 0], []⟩ 8 (by kernel_rfl) (by kernel_rfl) (by kernel_rfl) (by kernel_rfl)) ?_
  intro W base args ds gs before hval0 hW hcnd _
  have hval : ∀ (j : Nat) t v, Tryz.f3.params[j]? = some t → args[j]? = some v → Value.okWide Tryz.prog W .any base t v := hval0
  have hW' := hW
  obtain ⟨p, q, hA0, hV, rfl, hfz, hnd⟩ := hW
  have hA : DataW.TrodAll enc Tryz.prog W 0 (fun _ => true) true Tryz.f3.params.toList args.toList ds p := hA0
  rw [Tryz.params3] at hA hval
  obtain ⟨v0, vs0, d0, ds0, p0, q0, hargs, rfl, rfl, h0, r0⟩ := trodAll_cons hA
  obtain ⟨v1, vs1, d1, ds1, p1, q1, rfl, rfl, rfl, h1, r1⟩ := trodAll_cons r0
  obtain ⟨v2, vs2, d2, ds2, p2, q2, rfl, rfl, rfl, h2, r2⟩ := trodAll_cons r1
  obtain ⟨v3, vs3, d3, ds3, p3, q3, rfl, rfl, rfl, h3, r3⟩ := trodAll_cons r2
  obtain ⟨rfl, rfl, rfl⟩ := trodAll_nil r3
  obtain rfl : args = #[v0, v1, v2, v3] := by cases args; simp_all
  obtain ⟨rfl, rfl⟩ := trodVars_none hV
  obtain ⟨x0, rfl, y0⟩ := Kb.arg_agg Tryz.underlying24 (Kb.opens_24 W) (hval 0 24 v0 rfl rfl) h0
  obtain ⟨a0_0, a0_1, ⟨a0_2, a0_2u⟩⟩ := x0
  obtain ⟨x1, rfl, y1⟩ := Kb.arg_agg Tryz.underlying29 (Kb.opens_29 W) (hval 1 29 v1 rfl rfl) h1
  obtain ⟨⟨a1_0_0, ⟨a1_0_1, a1_0_1u⟩⟩, ⟨a1_1_0, ⟨a1_1_1, a1_1_1u⟩⟩⟩ := x1
  obtain ⟨a2, rfl, w2⟩ := Kb.arg_int Tryz.underlying3 (hval 2 3 v2 rfl rfl) h2
  obtain ⟨a3, rfl, w3⟩ := Kb.arg_int Tryz.underlying3 (hval 3 3 v3 rfl rfl) h3
  refine (Kb.Cp.law (Kb.ttells_ct a0_0 a0_1 a0_2 a0_2u a1_0_0 a1_0_1 a1_0_1u a1_1_0 a1_1_1 a1_1_1u a2 a3 ) W ⟨y0, y1.1, y1.2, trivial⟩).mono fun e W' ⟨he, hg⟩ => ?_
  subst he
  exact ⟨_, rfl, Kb.law_post (pv := []) hW' (fun _ _ _ => (trodAll_cons_mk (shut_bool Tryz.underlying4 _) trodAll_mk0)) (fun sp hs => Kb.keep_all laid hg.below (by kernel_rfl) hA0 (fun x hx => hW'.lt x (List.mem_append_left _ hx)) sp fun x hx => hs x (List.mem_append_left _ hx)) (fun _ _ => rfl) rfl hg (ok_one (by kernel_rfl) rfl (okWide_bool_mk Tryz.underlying4 _))⟩

theorem over : Rows.tableTellsRow.holds Tryz.pinned (OpenSpec.ofChange Rows.tableTellsSpec) :=
  OpenClaim.holds_of_wide 3 Tryz.f3 rfl rfl rfl rfl rfl rfl rfl ⟨rfl, rfl, rfl, rfl, rfl⟩ rfl rfl rfl rfl rfl (by kernel_rfl) Tryz.func3 (by kernel_rfl)
    (of_decide_eq_true (by kernel_rfl)) (by unfold Func.isWrapper; first | (rw [if_pos (by decide +kernel)]; kernel_rfl) | (rw [if_neg (by decide +kernel)]; exact ⟨rfl, rfl⟩))
    (fun os started H enc _ => lifted os started H enc)

theorem proved : Rows.TableTellsSaid :=
  over
#print axioms proved
end Go.Proofs.YtpnbgdgjgndicaaGreat.tableTells
