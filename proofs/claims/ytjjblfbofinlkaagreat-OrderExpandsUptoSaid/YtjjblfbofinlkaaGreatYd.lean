/- The law OrderExpands holds where the arguments are of bulk at most 1048576: the call returns true and every argument reads as it did. The walk is in the texts imported; here it is brought into the row. -/
import Derived.Test.YtjjblfbofinlkaaGreatZBwg
import Derived.Test.YtjjblfbofinlkaaGreatZDwa
import Derived.Test.YtjjblfbofinlkaaGreatRows
import Derived.ProofKit
import Derived.OpenShut
import Derived.JoinedCond
namespace Go.Proofs.YtjjblfbofinlkaaGreat.orderExpands
open Go.ChangeShapes Go.WideShapes Go.ChangeAt Go.RowKit
set_option linter.unusedVariables false

theorem own : ownKnob Tryz.prog.godebug = none := by kernel_rfl
theorem laid : laidOutB Tryz.prog = true := by kernel_rfl

set_option maxRecDepth 100000 in
theorem contract (H : Type) (enc : TypeId × Value → H) (W : World) (base : Nat) (args : Array Value) (ds gs : List (DataW H)) (before : List MemPlace)
    (hval : ∀ (j : Nat) t v, Tryz.f6.params[j]? = some t → args[j]? = some v → Value.okWide Tryz.prog W .any base t v)
    (hW : DataW.Whole enc Tryz.prog Tryz.f6.params.toList Rows.orderExpandsSpec.vars false W args.toList ds gs before) (hk : Rows.uptoSmall H (ds ++ gs) = true) :
    Calls Tryz.prog 6 args W fun e W' => ∃ v, e = .returned v ∧ Rows.orderExpandsSpec.post enc Tryz.prog Tryz.f6 false true false false W args v W' := by
  have hW' := hW
  obtain ⟨p, q, hA0, hV, rfl, hfz, hnd⟩ := hW
  have hA : DataW.TrodAll enc Tryz.prog W 0 (fun _ => true) true Tryz.f6.params.toList args.toList ds p := hA0
  rw [Tryz.params6] at hA hval
  obtain ⟨v0, vs0, d0, ds0, p0, q0, hargs, rfl, rfl, h0, r0⟩ := trodAll_cons hA
  obtain ⟨rfl, rfl, rfl⟩ := trodAll_nil r0
  obtain rfl : args = #[v0] := by cases args; simp_all
  obtain ⟨rfl, rfl⟩ := trodVars_none hV
  obtain ⟨x0, rfl, y0, b0⟩ := Kb.argB_agg Tryz.underlying31 (Kb.opB_31 W) (hval 0 31 v0 rfl rfl) h0
  have hb := Kb.small_all hk
  simp only [List.append_nil, Rows.uptoBulkAll] at hb
  replace b0 : Kb.bkSheet x0 ≤ 1048576 := by omega
  obtain ⟨a0_0, ⟨a0_1, a0_1u⟩, ⟨a0_2, a0_2u⟩, ⟨a0_3, a0_3u⟩, ⟨a0_4, a0_4u⟩, ⟨a0_5, a0_5u⟩, ⟨a0_6, a0_6u⟩, ⟨a0_7, a0_7u⟩, ⟨a0_8, a0_8u⟩⟩ := x0
  refine (Kb.Cp.law (Kb.lxp_ct a0_0 a0_1 a0_1u a0_2 a0_2u a0_3 a0_3u a0_4 a0_4u a0_5 a0_5u a0_6 a0_6u a0_7 a0_7u a0_8 a0_8u (Kb.Zv.sml b0) (Kb.Zv.len b0)) W ⟨y0.1, y0.2.1, y0.2.2.1, y0.2.2.2.1, y0.2.2.2.2.1, y0.2.2.2.2.2.1, y0.2.2.2.2.2.2.1, y0.2.2.2.2.2.2.2, trivial⟩).mono fun e W' ⟨he, hg⟩ => ?_
  subst he
  exact ⟨_, rfl, Kb.law_post (pv := []) hW' (fun _ _ _ => (trodAll_cons_mk (shut_bool Tryz.underlying4 _) trodAll_mk0)) (fun sp hs => Kb.keep_all laid hg.below (by kernel_rfl) hA0 (fun x hx => hW'.lt x (List.mem_append_left _ hx)) sp fun x hx => hs x (List.mem_append_left _ hx)) (fun _ _ => rfl) rfl hg (ok_one (by kernel_rfl) rfl (okWide_bool_mk Tryz.underlying4 _))⟩

set_option maxRecDepth 100000 in
theorem lifted (os : Os) (started : os.Started) (H : Type) (enc : TypeId × Value → H) (F : Stop.Interp) :
    ReturnsInHanded {} Tryz.checked os 6 .any ((Rows.OpenSpec.upto Rows.orderExpandsSpec).pre6 enc Tryz.prog Tryz.f6 Rows.orderExpandsUptoRow.domain false) (((Rows.OpenSpec.upto Rows.orderExpandsSpec).at F).post enc Tryz.prog Tryz.f6 false true false false) := by
  refine returnsInHanded_of_cond (C := Tryz.checked) (s := Rows.OpenSpec.upto Rows.orderExpandsSpec) (k := Rows.uptoSmall) rfl own started (by kernel_rfl) Tryz.func6
    (OpenSpec.witness (enc := enc) (C := Tryz.checked) (s := Rows.OpenSpec.upto Rows.orderExpandsSpec) (k := Rows.uptoSmall) rfl false ⟨#[], #[.agg #[.string ByteArray.empty, .slice none 0 0, .slice none 0 0, .slice none 0 0, .slice none 0 0, .slice none 0 0, .slice none 0 0, .slice none 0 0, .slice none 0 0]], []⟩ 8 (by kernel_rfl) (by kernel_rfl) (by kernel_rfl)
      (x := ([.agg [.lit (.string []), .nil, .nil, .nil, .nil, .nil, .nil, .nil, .nil]], [], [])) (by kernel_rfl) rfl (by kernel_rfl)) ?_
  intro W base args ds gs before hval hW _ hk _
  exact contract H enc W base args ds gs before hval hW hk

theorem proved : Rows.OrderExpandsUptoSaid :=
  OpenClaim.holds_of_cond 6 Tryz.f6 rfl rfl rfl rfl rfl rfl rfl ⟨rfl, rfl, rfl, rfl, rfl⟩ rfl rfl rfl rfl rfl (by kernel_rfl) Tryz.func6 (by kernel_rfl)
    (of_decide_eq_true (by kernel_rfl)) (by unfold Func.isWrapper; first | (rw [if_pos (by decide +kernel)]; kernel_rfl) | (rw [if_neg (by decide +kernel)]; exact ⟨rfl, rfl⟩))
    (fun os started H enc _ F => lifted os started H enc F)

#print axioms proved
end Go.Proofs.YtjjblfbofinlkaaGreat.orderExpands
