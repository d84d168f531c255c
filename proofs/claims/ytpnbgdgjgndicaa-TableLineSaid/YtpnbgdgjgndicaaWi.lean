/- The law TableLine holds: whatever the input, the call returns true and every argument reads as it did. The walk is in the texts imported; here it is brought into the row. -/
import Derived.Test.YtpnbgdgjgndicaaZvwg
import Derived.Test.YtpnbgdgjgndicaaZv013a
import Derived.Test.YtpnbgdgjgndicaaZv023a
import Derived.Test.YtpnbgdgjgndicaaZv03a
import Derived.Test.YtpnbgdgjgndicaaZv13a
import Derived.Test.YtpnbgdgjgndicaaZv3a
import Derived.Test.YtpnbgdgjgndicaaRows
import Derived.ProofKit
import Derived.OpenShut
namespace Go.Proofs.Ytpnbgdgjgndicaa.tableLine
open Go.ChangeShapes Go.WideShapes Go.ChangeAt Go.RowKit
set_option linter.unusedVariables false

theorem own : ownKnob Try.prog.godebug = none := by kernel_rfl
theorem laid : laidOutB Try.prog = true := by kernel_rfl

set_option maxRecDepth 100000 in
theorem lifted (os : Os) (started : os.Started) (H : Type) (enc : TypeId × Value → H) :
    ReturnsInHanded {} Try.checked os 10 .any (Rows.tableLineSpec.pre6 enc Try.prog Try.f10 Rows.tableLineRow.domain false) (Rows.tableLineSpec.post enc Try.prog Try.f10 false true false false) := by
  refine returnsInHanded_of_change (C := Try.checked) own started (by kernel_rfl) Try.func10
    (ChangeSpec.witness6 (enc := enc) (C := Try.checked) false ⟨#[], #[.agg #[.string ByteArray.empty, .string ByteArray.empty, .slice none 0 0], .int .i64 0, .agg #[.int .i64 0, .slice none 0 0, .int .i64 0, .slice none 0 0]], []⟩ 8 (by kernel_rfl) (by kernel_rfl) (by kernel_rfl) (by kernel_rfl)) ?_
  intro W base args ds gs before hval0 hW hcnd _
  have hval : ∀ (j : Nat) t v, Try.f10.params[j]? = some t → args[j]? = some v → Value.okWide Try.prog W .any base t v := hval0
  have hW' := hW
  obtain ⟨p, q, hA0, hV, rfl, hfz, hnd⟩ := hW
  have hA : DataW.TrodAll enc Try.prog W 0 (fun _ => true) true Try.f10.params.toList args.toList ds p := hA0
  rw [Try.params10] at hA hval
  obtain ⟨v0, vs0, d0, ds0, p0, q0, hargs, rfl, rfl, h0, r0⟩ := trodAll_cons hA
  obtain ⟨v1, vs1, d1, ds1, p1, q1, rfl, rfl, rfl, h1, r1⟩ := trodAll_cons r0
  obtain ⟨v2, vs2, d2, ds2, p2, q2, rfl, rfl, rfl, h2, r2⟩ := trodAll_cons r1
  obtain ⟨rfl, rfl, rfl⟩ := trodAll_nil r2
  obtain rfl : args = #[v0, v1, v2] := by cases args; simp_all
  obtain ⟨rfl, rfl⟩ := trodVars_none hV
  obtain ⟨x0, rfl, y0⟩ := Kb.arg_agg Try.underlying55 (Kb.opens_55 W) (hval 0 55 v0 rfl rfl) h0
  obtain ⟨a0_0, a0_1, ⟨a0_2, a0_2u⟩⟩ := x0
  obtain ⟨a1, rfl, w1⟩ := Kb.arg_int Try.underlying3 (hval 1 3 v1 rfl rfl) h1
  obtain ⟨x2, rfl, y2⟩ := Kb.arg_agg Try.underlying30 (Kb.opens_30 W) (hval 2 30 v2 rfl rfl) h2
  obtain ⟨⟨a2_0_0, ⟨a2_0_1, a2_0_1u⟩⟩, ⟨a2_1_0, ⟨a2_1_1, a2_1_1u⟩⟩⟩ := x2
  refine (Kb.Cp.law (Kb.ltline_ct a0_0 a0_1 a0_2 a0_2u a1 a2_0_0 a2_0_1 a2_0_1u a2_1_0 a2_1_1 a2_1_1u ) W ⟨y0, y2.1, y2.2, trivial⟩).mono fun e W' ⟨he, hg⟩ => ?_
  subst he
  exact ⟨_, rfl, Kb.law_post (pv := []) hW' (fun _ _ _ => (trodAll_cons_mk (shut_bool Try.underlying4 _) trodAll_mk0)) (fun sp hs => Kb.keep_all laid hg.below (by kernel_rfl) hA0 (fun x hx => hW'.lt x (List.mem_append_left _ hx)) sp fun x hx => hs x (List.mem_append_left _ hx)) (fun _ _ => rfl) rfl hg (ok_one (by kernel_rfl) rfl (okWide_bool_mk Try.underlying4 _))⟩

theorem over : Rows.tableLineRow.holds Try.pinned (OpenSpec.ofChange Rows.tableLineSpec) :=
  OpenClaim.holds_of_wide 10 Try.f10 rfl rfl rfl rfl rfl rfl rfl ⟨rfl, rfl, rfl, rfl, rfl⟩ rfl rfl rfl rfl rfl (by kernel_rfl) Try.func10 (by kernel_rfl)
    (of_decide_eq_true (by kernel_rfl)) (by unfold Func.isWrapper; first | (rw [if_pos (by decide +kernel)]; kernel_rfl) | (rw [if_neg (by decide +kernel)]; exact ⟨rfl, rfl⟩))
    (fun os started H enc _ => lifted os started H enc)

theorem proved : Rows.TableLineSaid :=
  over
#print axioms proved
end Go.Proofs.Ytpnbgdgjgndicaa.tableLine
