/- The law UnitProducts holds: whatever the input, the call returns true and every argument reads as it did. The walk is in the texts imported; here it is brought into the row. -/
import Derived.Test.YtpnbgdgjgndicaaZuwf
import Derived.Test.YtpnbgdgjgndicaaZu013a
import Derived.Test.YtpnbgdgjgndicaaZu123a
import Derived.Test.YtpnbgdgjgndicaaZu13a
import Derived.Test.YtpnbgdgjgndicaaZu23a
import Derived.Test.YtpnbgdgjgndicaaZu3a
import Derived.Test.YtpnbgdgjgndicaaRows
import Derived.ProofKit
import Derived.OpenShut
namespace Go.Proofs.Ytpnbgdgjgndicaa.unitProducts
open Go.ChangeShapes Go.WideShapes Go.ChangeAt Go.RowKit
set_option linter.unusedVariables false

theorem own : ownKnob Try.prog.godebug = none := by kernel_rfl
theorem laid : laidOutB Try.prog = true := by kernel_rfl

set_option maxRecDepth 100000 in
theorem lifted (os : Os) (started : os.Started) (H : Type) (enc : TypeId × Value → H) :
    ReturnsInHanded {} Try.checked os 8 .any (Rows.unitProductsSpec.pre6 enc Try.prog Try.f8 Rows.unitProductsRow.domain false) (Rows.unitProductsSpec.post enc Try.prog Try.f8 false true false false) := by
  refine returnsInHanded_of_change (C := Try.checked) own started (by kernel_rfl) Try.func8
    (ChangeSpec.witness6 (enc := enc) (C := Try.checked) false ⟨#[], #[.string ByteArray.empty, .string ByteArray.empty], []⟩ 8 (by kernel_rfl) (by kernel_rfl) (by kernel_rfl) (by kernel_rfl)) ?_
  intro W base args ds gs before hval0 hW hcnd _
  have hval : ∀ (j : Nat) t v, Try.f8.params[j]? = some t → args[j]? = some v → Value.okWide Try.prog W .any base t v := hval0
  have hW' := hW
  obtain ⟨p, q, hA0, hV, rfl, hfz, hnd⟩ := hW
  have hA : DataW.TrodAll enc Try.prog W 0 (fun _ => true) true Try.f8.params.toList args.toList ds p := hA0
  rw [Try.params8] at hA hval
  obtain ⟨v0, vs0, d0, ds0, p0, q0, hargs, rfl, rfl, h0, r0⟩ := trodAll_cons hA
  obtain ⟨v1, vs1, d1, ds1, p1, q1, rfl, rfl, rfl, h1, r1⟩ := trodAll_cons r0
  obtain ⟨rfl, rfl, rfl⟩ := trodAll_nil r1
  obtain rfl : args = #[v0, v1] := by cases args; simp_all
  obtain ⟨rfl, rfl⟩ := trodVars_none hV
  obtain ⟨a0, rfl, w0⟩ := Kb.arg_string Try.underlying9 (hval 0 9 v0 rfl rfl) h0
  obtain ⟨a1, rfl, w1⟩ := Kb.arg_string Try.underlying9 (hval 1 9 v1 rfl rfl) h1
  refine (Kb.Cp.law (Kb.uproducts_ct a0 a1 ) W trivial).mono fun e W' ⟨he, hg⟩ => ?_
  subst he
  exact ⟨_, rfl, Kb.law_post (pv := []) hW' (fun _ _ _ => (trodAll_cons_mk (shut_bool Try.underlying4 _) trodAll_mk0)) (fun sp hs => Kb.keep_all laid hg.below (by kernel_rfl) hA0 (fun x hx => hW'.lt x (List.mem_append_left _ hx)) sp fun x hx => hs x (List.mem_append_left _ hx)) (fun _ _ => rfl) rfl hg (ok_one (by kernel_rfl) rfl (okWide_bool_mk Try.underlying4 _))⟩

theorem over : Rows.unitProductsRow.holds Try.pinned (OpenSpec.ofChange Rows.unitProductsSpec) :=
  OpenClaim.holds_of_wide 8 Try.f8 rfl rfl rfl rfl rfl rfl rfl ⟨rfl, rfl, rfl, rfl, rfl⟩ rfl rfl rfl rfl rfl (by kernel_rfl) Try.func8 (by kernel_rfl)
    (of_decide_eq_true (by kernel_rfl)) (by unfold Func.isWrapper; first | (rw [if_pos (by decide +kernel)]; kernel_rfl) | (rw [if_neg (by decide +kernel)]; exact ⟨rfl, rfl⟩))
    (fun os started H enc _ => lifted os started H enc)

theorem proved : Rows.UnitProductsSaid :=
  over
#print axioms proved
end Go.Proofs.Ytpnbgdgjgndicaa.unitProducts
