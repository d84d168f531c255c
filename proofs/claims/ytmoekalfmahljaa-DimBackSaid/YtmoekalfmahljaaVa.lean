/- The contracts of dimensions. -/
import Derived.Test.YtmoekalfmahljaaJn
import Derived.Test.YtmoekalfmahljaaMo
set_option linter.unusedVariables false
set_option linter.unusedSectionVars false
set_option linter.unusedSimpArgs false
namespace Kb
open Go Go.Proofs
set_option maxRecDepth 10000 in
theorem symbols_ct :
    Cp Try.prog 13 #[] [] (.agg #[tv ⟨#[103]⟩, tv ⟨#[109]⟩, tv ⟨#[115]⟩, tv ⟨#[74]⟩, tv ⟨#[99, 101, 110, 116]⟩, tv ⟨#[112, 99]⟩]) := by
  refine V.fn mo Try.func13 2 1 (by kernel_rfl) fun w H ε k0 => ?_
  clear k0
  refine V.go [.nb 0 0 (fun b => pp b 0) 38 (fun _ => #[tv ByteArray.empty, tv ByteArray.empty, tv ByteArray.empty, tv ByteArray.empty, tv ByteArray.empty, tv ByteArray.empty])] (fun _ _ => by kernel_rfl) fun _ _ G1 => ?_
  intro S1 t1
  refine V.go [.k (.agg #[tv ⟨#[103]⟩, tv ⟨#[109]⟩, tv ⟨#[115]⟩, tv ⟨#[74]⟩, tv ⟨#[99, 101, 110, 116]⟩, tv ⟨#[112, 99]⟩]),
    .st 0 (fun _ => .blk ((G1 0).b) #[tv ⟨#[103]⟩, tv ⟨#[109]⟩, tv ⟨#[115]⟩, tv ⟨#[74]⟩, tv ⟨#[99, 101, 110, 116]⟩, tv ⟨#[112, 99]⟩] 38)] (fun _ _ => by kernel_rfl) fun _ _ G2 => ?_
  intro S2 t2
  exact V.ret [0] [] [] [] [] [] (.agg #[tv ⟨#[103]⟩, tv ⟨#[109]⟩, tv ⟨#[115]⟩, tv ⟨#[74]⟩, tv ⟨#[99, 101, 110, 116]⟩, tv ⟨#[112, 99]⟩]) (fun _ _ => by kernel_rfl) (fun _ _ => by kernel_rfl) (fun _ _ => trivial)

set_option maxRecDepth 10000 in
theorem right_ct (d0 d1 d2 d3 d4 d5 : Int) :
    Cp Try.prog 9 #[.agg #[iv d0, iv d1, iv d2, iv d3, iv d4, iv d5]] [] (bv (decide (Dm.Rt [d0, d1, d2, d3, d4, d5]))) := by
  refine V.fn mo Try.func9 16 1 (by kernel_rfl) fun w H ε k0 => ?_
  clear k0
  refine V.go [.nb 0 0 (fun b => pp b 0) 23 (fun _ => #[iv d0, iv d1, iv d2, iv d3, iv d4, iv d5]),
    .k (bv false)] (fun _ _ => by kernel_rfl) fun _ _ G1 => ?_
  intro S1 t1
  refine V.go [.ld 0 0 true (fun _ => [iv d0, iv d1, iv d2, iv d3, iv d4, iv d5]),
    .k (iv 0)] (fun _ _ => by kernel_rfl) fun _ _ G2 => ?_
  intro S2 t2
  refine V.loop (γ := Int) (fun k0 => ⟨[(5, .agg #[iv d0, iv d1, iv d2, iv d3, iv d4, iv d5]), (6, iv k0)], [], [.blk ((G1 0).b) #[iv d0, iv d1, iv d2, iv d3, iv d4, iv d5] 23]⟩) (fun k0 => (0 ≤ k0) ∧ (k0 ≤ 6) ∧ (∀ j : Nat, j < k0.toNat → -9 ≤ [d0, d1, d2, d3, d4, d5].getD j 0 ∧ [d0, d1, d2, d3, d4, d5].getD j 0 ≤ 9)) (fun k0 => (6 - k0).toNat) 0 (by kernel_rfl) [] (by kernel_rfl) ?_ ?_
  · skip
    refine ⟨?_, ?_, ?_⟩
    · show 0 ≤ (0 : Int)
      first | omega | rfl | (simp; done) | (subst_vars; simp; done)
    · show (0 : Int) ≤ 6
      first | omega | rfl | (simp; done) | (subst_vars; simp; done)
    · show ∀ j : Nat, j < (0 : Int).toNat → -9 ≤ [d0, d1, d2, d3, d4, d5].getD j 0 ∧ [d0, d1, d2, d3, d4, d5].getD j 0 ≤ 9
      intro j hj; simp at hj
  · rintro k0 hF1 kw3 Z1 hZ1
    have hF1 : (0 ≤ k0) ∧ (k0 ≤ 6) ∧ (∀ j : Nat, j < k0.toNat → -9 ≤ [d0, d1, d2, d3, d4, d5].getD j 0 ∧ [d0, d1, d2, d3, d4, d5].getD j 0 ≤ 9) := hF1
    obtain ⟨hf1, hf2, hf3⟩ := hF1
    clear kw3
    refine V.go [.k (bv (decide (k0 < 6)))] (fun _ _ => by kernel_rfl) fun _ _ G3 => ?_
    intro S3 t3
    refine V.cond (b := decide (k0 < 6)) iDT iDF (by kernel_rfl) (fun q1 => ?_) (fun q2 => ?_)
    · skip
      rcases (by omega : k0 = 0 ∨ k0 = 1 ∨ k0 = 2 ∨ k0 = 3 ∨ k0 = 4 ∨ k0 = 5) with hcs1 | hcs2 | hcs3 | hcs4 | hcs5 | hcs6
      · skip
        refine V.alt (fun (zz : Int) => (⟨[(5, .agg #[iv d0, iv d1, iv d2, iv d3, iv d4, iv d5]), (6, iv zz), (7, bv (decide (k0 < 6)))], [], [.blk ((G1 0).b) #[iv d0, iv d1, iv d2, iv d3, iv d4, iv d5] 23]⟩ : St)) hcs1 [] (by kernel_rfl) ?_
        refine V.go [.k (iv d0),
          .k (iv d0)] (fun _ _ => by kernel_rfl) fun _ _ G4 => ?_
        intro S4 t4
        refine V.go [.k (iv d0),
          .k (bv (decide (d0 < (-9)))),
          .k (bv (decide (d0 < (-9)))),
          .k (iv d0),
          .k (bv (decide (9 < d0))),
          .or g0 false (decide (d0 < (-9))) (decide (9 < d0))] (fun _ _ => by kernel_rfl) fun _ _ G5 => ?_
        intro S5 t5
        refine V.cond (b := (decide (d0 < (-9))) || (decide (9 < d0))) (iOT iDT iDT) (iOF iDF iDF) (by kernel_rfl) (fun q3 => ?_) (fun q4 => ?_)
        · skip
          refine V.go [.k (bv false)] (fun _ _ => by kernel_rfl) fun _ _ G6 => ?_
          intro S6 t6
          have e0 : false = decide (Dm.Rt [d0, d1, d2, d3, d4, d5]) := by
            symm; rw [decide_eq_false_iff_not, Dm.Rt6]; omega
          exact V.ret [0] [] [] [] [] [] (bv false) (fun _ _ => by kernel_rfl) (fun _ _ => (Eq.trans (by kernel_rfl) (cong1 (fun (x0 : Bool) => (bv x0 : Value)) e0)).trans (by kernel_rfl)) (fun _ _ => trivial)
        · skip
          refine V.go [.k (iv 1),
            .k (iv 1)] (fun _ _ => by kernel_rfl) fun _ _ G7 => ?_
          intro S7 t7
          refine V.rnd hZ1 1 [] (by kernel_rfl) ?_ ?_
          · skip
            refine ⟨?_, ?_, ?_⟩
            · show 0 ≤ (1 : Int)
              omega
            · show (1 : Int) ≤ 6
              omega
            · show ∀ j : Nat, j < (1 : Int).toNat → -9 ≤ [d0, d1, d2, d3, d4, d5].getD j 0 ∧ [d0, d1, d2, d3, d4, d5].getD j 0 ≤ 9
              exact Dm.upto_succ (P := fun j => -9 ≤ [d0, d1, d2, d3, d4, d5].getD j 0 ∧ [d0, d1, d2, d3, d4, d5].getD j 0 ≤ 9) (n := 0) (by omega) hf3 (by show -9 ≤ d0 ∧ d0 ≤ 9; omega)
          · show (6 - (1 : Int)).toNat < (6 - k0).toNat
            omega
      · skip
        refine V.alt (fun (zz : Int) => (⟨[(5, .agg #[iv d0, iv d1, iv d2, iv d3, iv d4, iv d5]), (6, iv zz), (7, bv (decide (k0 < 6)))], [], [.blk ((G1 0).b) #[iv d0, iv d1, iv d2, iv d3, iv d4, iv d5] 23]⟩ : St)) hcs2 [] (by kernel_rfl) ?_
        refine V.go [.k (iv d1),
          .k (iv d1)] (fun _ _ => by kernel_rfl) fun _ _ G8 => ?_
        intro S8 t8
        refine V.go [.k (iv d1),
          .k (bv (decide (d1 < (-9)))),
          .k (bv (decide (d1 < (-9)))),
          .k (iv d1),
          .k (bv (decide (9 < d1))),
          .or g0 false (decide (d1 < (-9))) (decide (9 < d1))] (fun _ _ => by kernel_rfl) fun _ _ G9 => ?_
        intro S9 t9
        refine V.cond (b := (decide (d1 < (-9))) || (decide (9 < d1))) (iOT iDT iDT) (iOF iDF iDF) (by kernel_rfl) (fun q5 => ?_) (fun q6 => ?_)
        · skip
          refine V.go [.k (bv false)] (fun _ _ => by kernel_rfl) fun _ _ G10 => ?_
          intro S10 t10
          have e0 : false = decide (Dm.Rt [d0, d1, d2, d3, d4, d5]) := by
            symm; rw [decide_eq_false_iff_not, Dm.Rt6]; omega
          exact V.ret [0] [] [] [] [] [] (bv false) (fun _ _ => by kernel_rfl) (fun _ _ => (Eq.trans (by kernel_rfl) (cong1 (fun (x0 : Bool) => (bv x0 : Value)) e0)).trans (by kernel_rfl)) (fun _ _ => trivial)
        · skip
          refine V.go [.k (iv 2),
            .k (iv 2)] (fun _ _ => by kernel_rfl) fun _ _ G11 => ?_
          intro S11 t11
          refine V.rnd hZ1 2 [] (by kernel_rfl) ?_ ?_
          · skip
            refine ⟨?_, ?_, ?_⟩
            · show 0 ≤ (2 : Int)
              omega
            · show (2 : Int) ≤ 6
              omega
            · show ∀ j : Nat, j < (2 : Int).toNat → -9 ≤ [d0, d1, d2, d3, d4, d5].getD j 0 ∧ [d0, d1, d2, d3, d4, d5].getD j 0 ≤ 9
              exact Dm.upto_succ (P := fun j => -9 ≤ [d0, d1, d2, d3, d4, d5].getD j 0 ∧ [d0, d1, d2, d3, d4, d5].getD j 0 ≤ 9) (n := 1) (by omega) hf3 (by show -9 ≤ d1 ∧ d1 ≤ 9; omega)
          · show (6 - (2 : Int)).toNat < (6 - k0).toNat
            omega
      · skip
        refine V.alt (fun (zz : Int) => (⟨[(5, .agg #[iv d0, iv d1, iv d2, iv d3, iv d4, iv d5]), (6, iv zz), (7, bv (decide (k0 < 6)))], [], [.blk ((G1 0).b) #[iv d0, iv d1, iv d2, iv d3, iv d4, iv d5] 23]⟩ : St)) hcs3 [] (by kernel_rfl) ?_
        refine V.go [.k (iv d2),
          .k (iv d2)] (fun _ _ => by kernel_rfl) fun _ _ G12 => ?_
        intro S12 t12
        refine V.go [.k (iv d2),
          .k (bv (decide (d2 < (-9)))),
          .k (bv (decide (d2 < (-9)))),
          .k (iv d2),
          .k (bv (decide (9 < d2))),
          .or g0 false (decide (d2 < (-9))) (decide (9 < d2))] (fun _ _ => by kernel_rfl) fun _ _ G13 => ?_
        intro S13 t13
        refine V.cond (b := (decide (d2 < (-9))) || (decide (9 < d2))) (iOT iDT iDT) (iOF iDF iDF) (by kernel_rfl) (fun q7 => ?_) (fun q8 => ?_)
        · skip
          refine V.go [.k (bv false)] (fun _ _ => by kernel_rfl) fun _ _ G14 => ?_
          intro S14 t14
          have e0 : false = decide (Dm.Rt [d0, d1, d2, d3, d4, d5]) := by
            symm; rw [decide_eq_false_iff_not, Dm.Rt6]; omega
          exact V.ret [0] [] [] [] [] [] (bv false) (fun _ _ => by kernel_rfl) (fun _ _ => (Eq.trans (by kernel_rfl) (cong1 (fun (x0 : Bool) => (bv x0 : Value)) e0)).trans (by kernel_rfl)) (fun _ _ => trivial)
        · skip
          refine V.go [.k (iv 3),
            .k (iv 3)] (fun _ _ => by kernel_rfl) fun _ _ G15 => ?_
          intro S15 t15
          refine V.rnd hZ1 3 [] (by kernel_rfl) ?_ ?_
          · skip
            refine ⟨?_, ?_, ?_⟩
            · show 0 ≤ (3 : Int)
              omega
            · show (3 : Int) ≤ 6
              omega
            · show ∀ j : Nat, j < (3 : Int).toNat → -9 ≤ [d0, d1, d2, d3, d4, d5].getD j 0 ∧ [d0, d1, d2, d3, d4, d5].getD j 0 ≤ 9
              exact Dm.upto_succ (P := fun j => -9 ≤ [d0, d1, d2, d3, d4, d5].getD j 0 ∧ [d0, d1, d2, d3, d4, d5].getD j 0 ≤ 9) (n := 2) (by omega) hf3 (by show -9 ≤ d2 ∧ d2 ≤ 9; omega)
          · show (6 - (3 : Int)).toNat < (6 - k0).toNat
            omega
      · skip
        refine V.alt (fun (zz : Int) => (⟨[(5, .agg #[iv d0, iv d1, iv d2, iv d3, iv d4, iv d5]), (6, iv zz), (7, bv (decide (k0 < 6)))], [], [.blk ((G1 0).b) #[iv d0, iv d1, iv d2, iv d3, iv d4, iv d5] 23]⟩ : St)) hcs4 [] (by kernel_rfl) ?_
        refine V.go [.k (iv d3),
          .k (iv d3)] (fun _ _ => by kernel_rfl) fun _ _ G16 => ?_
        intro S16 t16
        refine V.go [.k (iv d3),
          .k (bv (decide (d3 < (-9)))),
          .k (bv (decide (d3 < (-9)))),
          .k (iv d3),
          .k (bv (decide (9 < d3))),
          .or g0 false (decide (d3 < (-9))) (decide (9 < d3))] (fun _ _ => by kernel_rfl) fun _ _ G17 => ?_
        intro S17 t17
        refine V.cond (b := (decide (d3 < (-9))) || (decide (9 < d3))) (iOT iDT iDT) (iOF iDF iDF) (by kernel_rfl) (fun q9 => ?_) (fun q10 => ?_)
        · skip
          refine V.go [.k (bv false)] (fun _ _ => by kernel_rfl) fun _ _ G18 => ?_
          intro S18 t18
          have e0 : false = decide (Dm.Rt [d0, d1, d2, d3, d4, d5]) := by
            symm; rw [decide_eq_false_iff_not, Dm.Rt6]; omega
          exact V.ret [0] [] [] [] [] [] (bv false) (fun _ _ => by kernel_rfl) (fun _ _ => (Eq.trans (by kernel_rfl) (cong1 (fun (x0 : Bool) => (bv x0 : Value)) e0)).trans (by kernel_rfl)) (fun _ _ => trivial)
        · skip
          refine V.go [.k (iv 4),
            .k (iv 4)] (fun _ _ => by kernel_rfl) fun _ _ G19 => ?_
          intro S19 t19
          refine V.rnd hZ1 4 [] (by kernel_rfl) ?_ ?_
          · skip
            refine ⟨?_, ?_, ?_⟩
            · show 0 ≤ (4 : Int)
              omega
            · show (4 : Int) ≤ 6
              omega
            · show ∀ j : Nat, j < (4 : Int).toNat → -9 ≤ [d0, d1, d2, d3, d4, d5].getD j 0 ∧ [d0, d1, d2, d3, d4, d5].getD j 0 ≤ 9
              exact Dm.upto_succ (P := fun j => -9 ≤ [d0, d1, d2, d3, d4, d5].getD j 0 ∧ [d0, d1, d2, d3, d4, d5].getD j 0 ≤ 9) (n := 3) (by omega) hf3 (by show -9 ≤ d3 ∧ d3 ≤ 9; omega)
          · show (6 - (4 : Int)).toNat < (6 - k0).toNat
            omega
      · skip
        refine V.alt (fun (zz : Int) => (⟨[(5, .agg #[iv d0, iv d1, iv d2, iv d3, iv d4, iv d5]), (6, iv zz), (7, bv (decide (k0 < 6)))], [], [.blk ((G1 0).b) #[iv d0, iv d1, iv d2, iv d3, iv d4, iv d5] 23]⟩ : St)) hcs5 [] (by kernel_rfl) ?_
        refine V.go [.k (iv d4),
          .k (iv d4)] (fun _ _ => by kernel_rfl) fun _ _ G20 => ?_
        intro S20 t20
        refine V.go [.k (iv d4),
          .k (bv (decide (d4 < (-9)))),
          .k (bv (decide (d4 < (-9)))),
          .k (iv d4),
          .k (bv (decide (9 < d4))),
          .or g0 false (decide (d4 < (-9))) (decide (9 < d4))] (fun _ _ => by kernel_rfl) fun _ _ G21 => ?_
        intro S21 t21
        refine V.cond (b := (decide (d4 < (-9))) || (decide (9 < d4))) (iOT iDT iDT) (iOF iDF iDF) (by kernel_rfl) (fun q11 => ?_) (fun q12 => ?_)
        · skip
          refine V.go [.k (bv false)] (fun _ _ => by kernel_rfl) fun _ _ G22 => ?_
          intro S22 t22
          have e0 : false = decide (Dm.Rt [d0, d1, d2, d3, d4, d5]) := by
            symm; rw [decide_eq_false_iff_not, Dm.Rt6]; omega
          exact V.ret [0] [] [] [] [] [] (bv false) (fun _ _ => by kernel_rfl) (fun _ _ => (Eq.trans (by kernel_rfl) (cong1 (fun (x0 : Bool) => (bv x0 : Value)) e0)).trans (by kernel_rfl)) (fun _ _ => trivial)
        · skip
          refine V.go [.k (iv 5),
            .k (iv 5)] (fun _ _ => by kernel_rfl) fun _ _ G23 => ?_
          intro S23 t23
          refine V.rnd hZ1 5 [] (by kernel_rfl) ?_ ?_
          · skip
            refine ⟨?_, ?_, ?_⟩
            · show 0 ≤ (5 : Int)
              omega
            · show (5 : Int) ≤ 6
              omega
            · show ∀ j : Nat, j < (5 : Int).toNat → -9 ≤ [d0, d1, d2, d3, d4, d5].getD j 0 ∧ [d0, d1, d2, d3, d4, d5].getD j 0 ≤ 9
              exact Dm.upto_succ (P := fun j => -9 ≤ [d0, d1, d2, d3, d4, d5].getD j 0 ∧ [d0, d1, d2, d3, d4, d5].getD j 0 ≤ 9) (n := 4) (by omega) hf3 (by show -9 ≤ d4 ∧ d4 ≤ 9; omega)
          · show (6 - (5 : Int)).toNat < (6 - k0).toNat
            omega
      · skip
        refine V.alt (fun (zz : Int) => (⟨[(5, .agg #[iv d0, iv d1, iv d2, iv d3, iv d4, iv d5]), (6, iv zz), (7, bv (decide (k0 < 6)))], [], [.blk ((G1 0).b) #[iv d0, iv d1, iv d2, iv d3, iv d4, iv d5] 23]⟩ : St)) hcs6 [] (by kernel_rfl) ?_
        refine V.go [.k (iv d5),
          .k (iv d5)] (fun _ _ => by kernel_rfl) fun _ _ G24 => ?_
        intro S24 t24
        refine V.go [.k (iv d5),
          .k (bv (decide (d5 < (-9)))),
          .k (bv (decide (d5 < (-9)))),
          .k (iv d5),
          .k (bv (decide (9 < d5))),
          .or g0 false (decide (d5 < (-9))) (decide (9 < d5))] (fun _ _ => by kernel_rfl) fun _ _ G25 => ?_
        intro S25 t25
        refine V.cond (b := (decide (d5 < (-9))) || (decide (9 < d5))) (iOT iDT iDT) (iOF iDF iDF) (by kernel_rfl) (fun q13 => ?_) (fun q14 => ?_)
        · skip
          refine V.go [.k (bv false)] (fun _ _ => by kernel_rfl) fun _ _ G26 => ?_
          intro S26 t26
          have e0 : false = decide (Dm.Rt [d0, d1, d2, d3, d4, d5]) := by
            symm; rw [decide_eq_false_iff_not, Dm.Rt6]; omega
          exact V.ret [0] [] [] [] [] [] (bv false) (fun _ _ => by kernel_rfl) (fun _ _ => (Eq.trans (by kernel_rfl) (cong1 (fun (x0 : Bool) => (bv x0 : Value)) e0)).trans (by kernel_rfl)) (fun _ _ => trivial)
        · skip
          refine V.go [.k (iv 6),
            .k (iv 6)] (fun _ _ => by kernel_rfl) fun _ _ G27 => ?_
          intro S27 t27
          refine V.rnd hZ1 6 [] (by kernel_rfl) ?_ ?_
          · skip
            refine ⟨?_, ?_, ?_⟩
            · show 0 ≤ (6 : Int)
              omega
            · show (6 : Int) ≤ 6
              omega
            · show ∀ j : Nat, j < (6 : Int).toNat → -9 ≤ [d0, d1, d2, d3, d4, d5].getD j 0 ∧ [d0, d1, d2, d3, d4, d5].getD j 0 ≤ 9
              exact Dm.upto_succ (P := fun j => -9 ≤ [d0, d1, d2, d3, d4, d5].getD j 0 ∧ [d0, d1, d2, d3, d4, d5].getD j 0 ≤ 9) (n := 5) (by omega) hf3 (by show -9 ≤ d5 ∧ d5 ≤ 9; omega)
          · show (6 - (6 : Int)).toNat < (6 - k0).toNat
            omega
    · skip
      refine V.go [.k (bv true)] (fun _ _ => by kernel_rfl) fun _ _ G28 => ?_
      intro S28 t28
      have e0 : true = decide (Dm.Rt [d0, d1, d2, d3, d4, d5]) := by
        symm; rw [decide_eq_true_iff]; exact Dm.Rt_all rfl fun j hj => hf3 j (by omega)
      exact V.ret [0] [] [] [] [] [] (bv true) (fun _ _ => by kernel_rfl) (fun _ _ => (Eq.trans (by kernel_rfl) (cong1 (fun (x0 : Bool) => (bv x0 : Value)) e0)).trans (by kernel_rfl)) (fun _ _ => trivial)

set_option maxRecDepth 10000 in
theorem mulc_ct0 (ab : Nat) (a0 a1 a2 a3 a4 a5 : Int) (bb : Nat) (b0 b1 b2 b3 b4 b5 : Int) (ha : Dm.Rt [a0, a1, a2, a3, a4, a5]) (hb2 : Dm.Rt [b0, b1, b2, b3, b4, b5]) :
    Ct Try.prog 19 #[iv 0, pp ab 0, pp bb 0] [] [.blk ab #[iv a0, iv a1, iv a2, iv a3, iv a4, iv a5] 23, .blk bb #[iv b0, iv b1, iv b2, iv b3, iv b4, iv b5] 23] (fun g => iv (a0 + b0)) (fun g => []) (fun g => [.blk ab #[iv a0, iv a1, iv a2, iv a3, iv a4, iv a5] 23, .blk bb #[iv b0, iv b1, iv b2, iv b3, iv b4, iv b5] 23]) (fun g => []) := by
  refine V.fn mo Try.func19 12 0 (by kernel_rfl) fun w H ε k0 => ?_
  clear k0
  have ha6 := Dm.Rt6.1 ha; have hb6 := Dm.Rt6.1 hb2
  refine V.go [.k (iv 0)] (fun _ _ => by kernel_rfl) fun _ _ G1 => ?_
  intro S1 t1
  refine V.go [.k (iv 0),
    .k (pp ab 0),
    .ld 0 0 false (fun _ => [iv a0]),
    .k (iv 0),
    .k (pp bb 0),
    .ld 1 0 false (fun _ => [iv b0]),
    .a (a0 + b0) (by omega) (by omega),
    .k (iv (a0 + b0))] (fun _ _ => by kernel_rfl) fun _ _ G2 => ?_
  intro S2 t2
  exact V.ret [0] [] [] [] [] [0, 1] (iv (a0 + b0)) (fun _ _ => by kernel_rfl) (fun _ _ => by kernel_rfl) (fun _ _ => trivial)

set_option maxRecDepth 10000 in
theorem mulc_ct1 (ab : Nat) (a0 a1 a2 a3 a4 a5 : Int) (bb : Nat) (b0 b1 b2 b3 b4 b5 : Int) (ha : Dm.Rt [a0, a1, a2, a3, a4, a5]) (hb2 : Dm.Rt [b0, b1, b2, b3, b4, b5]) :
    Ct Try.prog 19 #[iv 1, pp ab 0, pp bb 0] [] [.blk ab #[iv a0, iv a1, iv a2, iv a3, iv a4, iv a5] 23, .blk bb #[iv b0, iv b1, iv b2, iv b3, iv b4, iv b5] 23] (fun g => iv (a1 + b1)) (fun g => []) (fun g => [.blk ab #[iv a0, iv a1, iv a2, iv a3, iv a4, iv a5] 23, .blk bb #[iv b0, iv b1, iv b2, iv b3, iv b4, iv b5] 23]) (fun g => []) := by
  refine V.fn mo Try.func19 12 0 (by kernel_rfl) fun w H ε k0 => ?_
  clear k0
  have ha6 := Dm.Rt6.1 ha; have hb6 := Dm.Rt6.1 hb2
  refine V.go [.k (iv 0)] (fun _ _ => by kernel_rfl) fun _ _ G1 => ?_
  intro S1 t1
  refine V.go [.k (iv 1),
    .k (pp ab 1),
    .ld 0 1 false (fun _ => [iv a1]),
    .k (iv 1),
    .k (pp bb 1),
    .ld 1 1 false (fun _ => [iv b1]),
    .a (a1 + b1) (by omega) (by omega),
    .k (iv (a1 + b1))] (fun _ _ => by kernel_rfl) fun _ _ G2 => ?_
  intro S2 t2
  exact V.ret [0] [] [] [] [] [0, 1] (iv (a1 + b1)) (fun _ _ => by kernel_rfl) (fun _ _ => by kernel_rfl) (fun _ _ => trivial)

set_option maxRecDepth 10000 in
theorem mulc_ct2 (ab : Nat) (a0 a1 a2 a3 a4 a5 : Int) (bb : Nat) (b0 b1 b2 b3 b4 b5 : Int) (ha : Dm.Rt [a0, a1, a2, a3, a4, a5]) (hb2 : Dm.Rt [b0, b1, b2, b3, b4, b5]) :
    Ct Try.prog 19 #[iv 2, pp ab 0, pp bb 0] [] [.blk ab #[iv a0, iv a1, iv a2, iv a3, iv a4, iv a5] 23, .blk bb #[iv b0, iv b1, iv b2, iv b3, iv b4, iv b5] 23] (fun g => iv (a2 + b2)) (fun g => []) (fun g => [.blk ab #[iv a0, iv a1, iv a2, iv a3, iv a4, iv a5] 23, .blk bb #[iv b0, iv b1, iv b2, iv b3, iv b4, iv b5] 23]) (fun g => []) := by
  refine V.fn mo Try.func19 12 0 (by kernel_rfl) fun w H ε k0 => ?_
  clear k0
  have ha6 := Dm.Rt6.1 ha; have hb6 := Dm.Rt6.1 hb2
  refine V.go [.k (iv 0)] (fun _ _ => by kernel_rfl) fun _ _ G1 => ?_
  intro S1 t1
  refine V.go [.k (iv 2),
    .k (pp ab 2),
    .ld 0 2 false (fun _ => [iv a2]),
    .k (iv 2),
    .k (pp bb 2),
    .ld 1 2 false (fun _ => [iv b2]),
    .a (a2 + b2) (by omega) (by omega),
    .k (iv (a2 + b2))] (fun _ _ => by kernel_rfl) fun _ _ G2 => ?_
  intro S2 t2
  exact V.ret [0] [] [] [] [] [0, 1] (iv (a2 + b2)) (fun _ _ => by kernel_rfl) (fun _ _ => by kernel_rfl) (fun _ _ => trivial)

set_option maxRecDepth 10000 in
theorem mulc_ct3 (ab : Nat) (a0 a1 a2 a3 a4 a5 : Int) (bb : Nat) (b0 b1 b2 b3 b4 b5 : Int) (ha : Dm.Rt [a0, a1, a2, a3, a4, a5]) (hb2 : Dm.Rt [b0, b1, b2, b3, b4, b5]) :
    Ct Try.prog 19 #[iv 3, pp ab 0, pp bb 0] [] [.blk ab #[iv a0, iv a1, iv a2, iv a3, iv a4, iv a5] 23, .blk bb #[iv b0, iv b1, iv b2, iv b3, iv b4, iv b5] 23] (fun g => iv (a3 + b3)) (fun g => []) (fun g => [.blk ab #[iv a0, iv a1, iv a2, iv a3, iv a4, iv a5] 23, .blk bb #[iv b0, iv b1, iv b2, iv b3, iv b4, iv b5] 23]) (fun g => []) := by
  refine V.fn mo Try.func19 12 0 (by kernel_rfl) fun w H ε k0 => ?_
  clear k0
  have ha6 := Dm.Rt6.1 ha; have hb6 := Dm.Rt6.1 hb2
  refine V.go [.k (iv 0)] (fun _ _ => by kernel_rfl) fun _ _ G1 => ?_
  intro S1 t1
  refine V.go [.k (iv 3),
    .k (pp ab 3),
    .ld 0 3 false (fun _ => [iv a3]),
    .k (iv 3),
    .k (pp bb 3),
    .ld 1 3 false (fun _ => [iv b3]),
    .a (a3 + b3) (by omega) (by omega),
    .k (iv (a3 + b3))] (fun _ _ => by kernel_rfl) fun _ _ G2 => ?_
  intro S2 t2
  exact V.ret [0] [] [] [] [] [0, 1] (iv (a3 + b3)) (fun _ _ => by kernel_rfl) (fun _ _ => by kernel_rfl) (fun _ _ => trivial)

set_option maxRecDepth 10000 in
theorem mulc_ct4 (ab : Nat) (a0 a1 a2 a3 a4 a5 : Int) (bb : Nat) (b0 b1 b2 b3 b4 b5 : Int) (ha : Dm.Rt [a0, a1, a2, a3, a4, a5]) (hb2 : Dm.Rt [b0, b1, b2, b3, b4, b5]) :
    Ct Try.prog 19 #[iv 4, pp ab 0, pp bb 0] [] [.blk ab #[iv a0, iv a1, iv a2, iv a3, iv a4, iv a5] 23, .blk bb #[iv b0, iv b1, iv b2, iv b3, iv b4, iv b5] 23] (fun g => iv (a4 + b4)) (fun g => []) (fun g => [.blk ab #[iv a0, iv a1, iv a2, iv a3, iv a4, iv a5] 23, .blk bb #[iv b0, iv b1, iv b2, iv b3, iv b4, iv b5] 23]) (fun g => []) := by
  refine V.fn mo Try.func19 12 0 (by kernel_rfl) fun w H ε k0 => ?_
  clear k0
  have ha6 := Dm.Rt6.1 ha; have hb6 := Dm.Rt6.1 hb2
  refine V.go [.k (iv 0)] (fun _ _ => by kernel_rfl) fun _ _ G1 => ?_
  intro S1 t1
  refine V.go [.k (iv 4),
    .k (pp ab 4),
    .ld 0 4 false (fun _ => [iv a4]),
    .k (iv 4),
    .k (pp bb 4),
    .ld 1 4 false (fun _ => [iv b4]),
    .a (a4 + b4) (by omega) (by omega),
    .k (iv (a4 + b4))] (fun _ _ => by kernel_rfl) fun _ _ G2 => ?_
  intro S2 t2
  exact V.ret [0] [] [] [] [] [0, 1] (iv (a4 + b4)) (fun _ _ => by kernel_rfl) (fun _ _ => by kernel_rfl) (fun _ _ => trivial)

set_option maxRecDepth 10000 in
theorem mulc_ct5 (ab : Nat) (a0 a1 a2 a3 a4 a5 : Int) (bb : Nat) (b0 b1 b2 b3 b4 b5 : Int) (ha : Dm.Rt [a0, a1, a2, a3, a4, a5]) (hb2 : Dm.Rt [b0, b1, b2, b3, b4, b5]) :
    Ct Try.prog 19 #[iv 5, pp ab 0, pp bb 0] [] [.blk ab #[iv a0, iv a1, iv a2, iv a3, iv a4, iv a5] 23, .blk bb #[iv b0, iv b1, iv b2, iv b3, iv b4, iv b5] 23] (fun g => iv (a5 + b5)) (fun g => []) (fun g => [.blk ab #[iv a0, iv a1, iv a2, iv a3, iv a4, iv a5] 23, .blk bb #[iv b0, iv b1, iv b2, iv b3, iv b4, iv b5] 23]) (fun g => []) := by
  refine V.fn mo Try.func19 12 0 (by kernel_rfl) fun w H ε k0 => ?_
  clear k0
  have ha6 := Dm.Rt6.1 ha; have hb6 := Dm.Rt6.1 hb2
  refine V.go [.k (iv 0)] (fun _ _ => by kernel_rfl) fun _ _ G1 => ?_
  intro S1 t1
  refine V.go [.k (iv 5),
    .k (pp ab 5),
    .ld 0 5 false (fun _ => [iv a5]),
    .k (iv 5),
    .k (pp bb 5),
    .ld 1 5 false (fun _ => [iv b5]),
    .a (a5 + b5) (by omega) (by omega),
    .k (iv (a5 + b5))] (fun _ _ => by kernel_rfl) fun _ _ G2 => ?_
  intro S2 t2
  exact V.ret [0] [] [] [] [] [0, 1] (iv (a5 + b5)) (fun _ _ => by kernel_rfl) (fun _ _ => by kernel_rfl) (fun _ _ => trivial)

set_option maxRecDepth 10000 in
theorem divc_ct0 (ab : Nat) (a0 a1 a2 a3 a4 a5 : Int) (bb : Nat) (b0 b1 b2 b3 b4 b5 : Int) (ha : Dm.Rt [a0, a1, a2, a3, a4, a5]) (hb2 : Dm.Rt [b0, b1, b2, b3, b4, b5]) :
    Ct Try.prog 20 #[iv 0, pp ab 0, pp bb 0] [] [.blk ab #[iv a0, iv a1, iv a2, iv a3, iv a4, iv a5] 23, .blk bb #[iv b0, iv b1, iv b2, iv b3, iv b4, iv b5] 23] (fun g => iv (a0 - b0)) (fun g => []) (fun g => [.blk ab #[iv a0, iv a1, iv a2, iv a3, iv a4, iv a5] 23, .blk bb #[iv b0, iv b1, iv b2, iv b3, iv b4, iv b5] 23]) (fun g => []) := by
  refine V.fn mo Try.func20 12 0 (by kernel_rfl) fun w H ε k0 => ?_
  clear k0
  have ha6 := Dm.Rt6.1 ha; have hb6 := Dm.Rt6.1 hb2
  refine V.go [.k (iv 0)] (fun _ _ => by kernel_rfl) fun _ _ G1 => ?_
  intro S1 t1
  refine V.go [.k (iv 0),
    .k (pp ab 0),
    .ld 0 0 false (fun _ => [iv a0]),
    .k (iv 0),
    .k (pp bb 0),
    .ld 1 0 false (fun _ => [iv b0]),
    .a (a0 - b0) (by omega) (by omega),
    .k (iv (a0 - b0))] (fun _ _ => by kernel_rfl) fun _ _ G2 => ?_
  intro S2 t2
  exact V.ret [0] [] [] [] [] [0, 1] (iv (a0 - b0)) (fun _ _ => by kernel_rfl) (fun _ _ => by kernel_rfl) (fun _ _ => trivial)

set_option maxRecDepth 10000 in
theorem divc_ct1 (ab : Nat) (a0 a1 a2 a3 a4 a5 : Int) (bb : Nat) (b0 b1 b2 b3 b4 b5 : Int) (ha : Dm.Rt [a0, a1, a2, a3, a4, a5]) (hb2 : Dm.Rt [b0, b1, b2, b3, b4, b5]) :
    Ct Try.prog 20 #[iv 1, pp ab 0, pp bb 0] [] [.blk ab #[iv a0, iv a1, iv a2, iv a3, iv a4, iv a5] 23, .blk bb #[iv b0, iv b1, iv b2, iv b3, iv b4, iv b5] 23] (fun g => iv (a1 - b1)) (fun g => []) (fun g => [.blk ab #[iv a0, iv a1, iv a2, iv a3, iv a4, iv a5] 23, .blk bb #[iv b0, iv b1, iv b2, iv b3, iv b4, iv b5] 23]) (fun g => []) := by
  refine V.fn mo Try.func20 12 0 (by kernel_rfl) fun w H ε k0 => ?_
  clear k0
  have ha6 := Dm.Rt6.1 ha; have hb6 := Dm.Rt6.1 hb2
  refine V.go [.k (iv 0)] (fun _ _ => by kernel_rfl) fun _ _ G1 => ?_
  intro S1 t1
  refine V.go [.k (iv 1),
    .k (pp ab 1),
    .ld 0 1 false (fun _ => [iv a1]),
    .k (iv 1),
    .k (pp bb 1),
    .ld 1 1 false (fun _ => [iv b1]),
    .a (a1 - b1) (by omega) (by omega),
    .k (iv (a1 - b1))] (fun _ _ => by kernel_rfl) fun _ _ G2 => ?_
  intro S2 t2
  exact V.ret [0] [] [] [] [] [0, 1] (iv (a1 - b1)) (fun _ _ => by kernel_rfl) (fun _ _ => by kernel_rfl) (fun _ _ => trivial)

set_option maxRecDepth 10000 in
theorem divc_ct2 (ab : Nat) (a0 a1 a2 a3 a4 a5 : Int) (bb : Nat) (b0 b1 b2 b3 b4 b5 : Int) (ha : Dm.Rt [a0, a1, a2, a3, a4, a5]) (hb2 : Dm.Rt [b0, b1, b2, b3, b4, b5]) :
    Ct Try.prog 20 #[iv 2, pp ab 0, pp bb 0] [] [.blk ab #[iv a0, iv a1, iv a2, iv a3, iv a4, iv a5] 23, .blk bb #[iv b0, iv b1, iv b2, iv b3, iv b4, iv b5] 23] (fun g => iv (a2 - b2)) (fun g => []) (fun g => [.blk ab #[iv a0, iv a1, iv a2, iv a3, iv a4, iv a5] 23, .blk bb #[iv b0, iv b1, iv b2, iv b3, iv b4, iv b5] 23]) (fun g => []) := by
  refine V.fn mo Try.func20 12 0 (by kernel_rfl) fun w H ε k0 => ?_
  clear k0
  have ha6 := Dm.Rt6.1 ha; have hb6 := Dm.Rt6.1 hb2
  refine V.go [.k (iv 0)] (fun _ _ => by kernel_rfl) fun _ _ G1 => ?_
  intro S1 t1
  refine V.go [.k (iv 2),
    .k (pp ab 2),
    .ld 0 2 false (fun _ => [iv a2]),
    .k (iv 2),
    .k (pp bb 2),
    .ld 1 2 false (fun _ => [iv b2]),
    .a (a2 - b2) (by omega) (by omega),
    .k (iv (a2 - b2))] (fun _ _ => by kernel_rfl) fun _ _ G2 => ?_
  intro S2 t2
  exact V.ret [0] [] [] [] [] [0, 1] (iv (a2 - b2)) (fun _ _ => by kernel_rfl) (fun _ _ => by kernel_rfl) (fun _ _ => trivial)

set_option maxRecDepth 10000 in
theorem divc_ct3 (ab : Nat) (a0 a1 a2 a3 a4 a5 : Int) (bb : Nat) (b0 b1 b2 b3 b4 b5 : Int) (ha : Dm.Rt [a0, a1, a2, a3, a4, a5]) (hb2 : Dm.Rt [b0, b1, b2, b3, b4, b5]) :
    Ct Try.prog 20 #[iv 3, pp ab 0, pp bb 0] [] [.blk ab #[iv a0, iv a1, iv a2, iv a3, iv a4, iv a5] 23, .blk bb #[iv b0, iv b1, iv b2, iv b3, iv b4, iv b5] 23] (fun g => iv (a3 - b3)) (fun g => []) (fun g => [.blk ab #[iv a0, iv a1, iv a2, iv a3, iv a4, iv a5] 23, .blk bb #[iv b0, iv b1, iv b2, iv b3, iv b4, iv b5] 23]) (fun g => []) := by
  refine V.fn mo Try.func20 12 0 (by kernel_rfl) fun w H ε k0 => ?_
  clear k0
  have ha6 := Dm.Rt6.1 ha; have hb6 := Dm.Rt6.1 hb2
  refine V.go [.k (iv 0)] (fun _ _ => by kernel_rfl) fun _ _ G1 => ?_
  intro S1 t1
  refine V.go [.k (iv 3),
    .k (pp ab 3),
    .ld 0 3 false (fun _ => [iv a3]),
    .k (iv 3),
    .k (pp bb 3),
    .ld 1 3 false (fun _ => [iv b3]),
    .a (a3 - b3) (by omega) (by omega),
    .k (iv (a3 - b3))] (fun _ _ => by kernel_rfl) fun _ _ G2 => ?_
  intro S2 t2
  exact V.ret [0] [] [] [] [] [0, 1] (iv (a3 - b3)) (fun _ _ => by kernel_rfl) (fun _ _ => by kernel_rfl) (fun _ _ => trivial)

set_option maxRecDepth 10000 in
theorem divc_ct4 (ab : Nat) (a0 a1 a2 a3 a4 a5 : Int) (bb : Nat) (b0 b1 b2 b3 b4 b5 : Int) (ha : Dm.Rt [a0, a1, a2, a3, a4, a5]) (hb2 : Dm.Rt [b0, b1, b2, b3, b4, b5]) :
    Ct Try.prog 20 #[iv 4, pp ab 0, pp bb 0] [] [.blk ab #[iv a0, iv a1, iv a2, iv a3, iv a4, iv a5] 23, .blk bb #[iv b0, iv b1, iv b2, iv b3, iv b4, iv b5] 23] (fun g => iv (a4 - b4)) (fun g => []) (fun g => [.blk ab #[iv a0, iv a1, iv a2, iv a3, iv a4, iv a5] 23, .blk bb #[iv b0, iv b1, iv b2, iv b3, iv b4, iv b5] 23]) (fun g => []) := by
  refine V.fn mo Try.func20 12 0 (by kernel_rfl) fun w H ε k0 => ?_
  clear k0
  have ha6 := Dm.Rt6.1 ha; have hb6 := Dm.Rt6.1 hb2
  refine V.go [.k (iv 0)] (fun _ _ => by kernel_rfl) fun _ _ G1 => ?_
  intro S1 t1
  refine V.go [.k (iv 4),
    .k (pp ab 4),
    .ld 0 4 false (fun _ => [iv a4]),
    .k (iv 4),
    .k (pp bb 4),
    .ld 1 4 false (fun _ => [iv b4]),
    .a (a4 - b4) (by omega) (by omega),
    .k (iv (a4 - b4))] (fun _ _ => by kernel_rfl) fun _ _ G2 => ?_
  intro S2 t2
  exact V.ret [0] [] [] [] [] [0, 1] (iv (a4 - b4)) (fun _ _ => by kernel_rfl) (fun _ _ => by kernel_rfl) (fun _ _ => trivial)

set_option maxRecDepth 10000 in
theorem divc_ct5 (ab : Nat) (a0 a1 a2 a3 a4 a5 : Int) (bb : Nat) (b0 b1 b2 b3 b4 b5 : Int) (ha : Dm.Rt [a0, a1, a2, a3, a4, a5]) (hb2 : Dm.Rt [b0, b1, b2, b3, b4, b5]) :
    Ct Try.prog 20 #[iv 5, pp ab 0, pp bb 0] [] [.blk ab #[iv a0, iv a1, iv a2, iv a3, iv a4, iv a5] 23, .blk bb #[iv b0, iv b1, iv b2, iv b3, iv b4, iv b5] 23] (fun g => iv (a5 - b5)) (fun g => []) (fun g => [.blk ab #[iv a0, iv a1, iv a2, iv a3, iv a4, iv a5] 23, .blk bb #[iv b0, iv b1, iv b2, iv b3, iv b4, iv b5] 23]) (fun g => []) := by
  refine V.fn mo Try.func20 12 0 (by kernel_rfl) fun w H ε k0 => ?_
  clear k0
  have ha6 := Dm.Rt6.1 ha; have hb6 := Dm.Rt6.1 hb2
  refine V.go [.k (iv 0)] (fun _ _ => by kernel_rfl) fun _ _ G1 => ?_
  intro S1 t1
  refine V.go [.k (iv 5),
    .k (pp ab 5),
    .ld 0 5 false (fun _ => [iv a5]),
    .k (iv 5),
    .k (pp bb 5),
    .ld 1 5 false (fun _ => [iv b5]),
    .a (a5 - b5) (by omega) (by omega),
    .k (iv (a5 - b5))] (fun _ _ => by kernel_rfl) fun _ _ G2 => ?_
  intro S2 t2
  exact V.ret [0] [] [] [] [] [0, 1] (iv (a5 - b5)) (fun _ _ => by kernel_rfl) (fun _ _ => by kernel_rfl) (fun _ _ => trivial)

set_option maxRecDepth 10000 in
theorem powc_ct0 (db : Nat) (d0 d1 d2 d3 d4 d5 : Int) (nb : Nat) (n : Int) (hd : Dm.Rt [d0, d1, d2, d3, d4, d5]) (hn : -10 ≤ n ∧ n ≤ 10) :
    Ct Try.prog 21 #[iv 0, pp db 0, pp nb 0] [] [.blk db #[iv d0, iv d1, iv d2, iv d3, iv d4, iv d5] 23, .blk nb #[iv n] 3] (fun g => iv (d0 * n)) (fun g => []) (fun g => [.blk db #[iv d0, iv d1, iv d2, iv d3, iv d4, iv d5] 23, .blk nb #[iv n] 3]) (fun g => []) := by
  refine V.fn mo Try.func21 10 0 (by kernel_rfl) fun w H ε k0 => ?_
  clear k0
  have hd6 := Dm.Rt6.1 hd
  have hm0 := Dm.mulB (x := d0) (n := n) (by omega) hn
  have hm1 := Dm.mulB (x := d1) (n := n) (by omega) hn
  have hm2 := Dm.mulB (x := d2) (n := n) (by omega) hn
  have hm3 := Dm.mulB (x := d3) (n := n) (by omega) hn
  have hm4 := Dm.mulB (x := d4) (n := n) (by omega) hn
  have hm5 := Dm.mulB (x := d5) (n := n) (by omega) hn
  refine V.go [.k (iv 0)] (fun _ _ => by kernel_rfl) fun _ _ G1 => ?_
  intro S1 t1
  refine nm (d0 * n : Int) fun n1 hn1 => ?_
  refine V.go [.k (iv 0),
    .k (pp db 0),
    .ld 0 0 false (fun _ => [iv d0]),
    .ld 1 0 false (fun _ => [iv n]),
    .ar (d0 * n) n1 hn1 (by omega) (by omega),
    .k (iv n1)] (fun _ _ => by kernel_rfl) fun _ _ G2 => ?_
  intro S2 t2
  have e0 : n1 = d0 * n := by
    exact hn1
  exact V.ret [0] [] [] [] [] [0, 1] (iv n1) (fun _ _ => by kernel_rfl) (fun _ _ => (Eq.trans (by kernel_rfl) (cong1 (fun (x0 : Int) => (iv x0 : Value)) e0)).trans (by kernel_rfl)) (fun _ _ => trivial)

set_option maxRecDepth 10000 in
theorem powc_ct1 (db : Nat) (d0 d1 d2 d3 d4 d5 : Int) (nb : Nat) (n : Int) (hd : Dm.Rt [d0, d1, d2, d3, d4, d5]) (hn : -10 ≤ n ∧ n ≤ 10) :
    Ct Try.prog 21 #[iv 1, pp db 0, pp nb 0] [] [.blk db #[iv d0, iv d1, iv d2, iv d3, iv d4, iv d5] 23, .blk nb #[iv n] 3] (fun g => iv (d1 * n)) (fun g => []) (fun g => [.blk db #[iv d0, iv d1, iv d2, iv d3, iv d4, iv d5] 23, .blk nb #[iv n] 3]) (fun g => []) := by
  refine V.fn mo Try.func21 10 0 (by kernel_rfl) fun w H ε k0 => ?_
  clear k0
  have hd6 := Dm.Rt6.1 hd
  have hm0 := Dm.mulB (x := d0) (n := n) (by omega) hn
  have hm1 := Dm.mulB (x := d1) (n := n) (by omega) hn
  have hm2 := Dm.mulB (x := d2) (n := n) (by omega) hn
  have hm3 := Dm.mulB (x := d3) (n := n) (by omega) hn
  have hm4 := Dm.mulB (x := d4) (n := n) (by omega) hn
  have hm5 := Dm.mulB (x := d5) (n := n) (by omega) hn
  refine V.go [.k (iv 0)] (fun _ _ => by kernel_rfl) fun _ _ G1 => ?_
  intro S1 t1
  refine nm (d1 * n : Int) fun n1 hn1 => ?_
  refine V.go [.k (iv 1),
    .k (pp db 1),
    .ld 0 1 false (fun _ => [iv d1]),
    .ld 1 0 false (fun _ => [iv n]),
    .ar (d1 * n) n1 hn1 (by omega) (by omega),
    .k (iv n1)] (fun _ _ => by kernel_rfl) fun _ _ G2 => ?_
  intro S2 t2
  have e0 : n1 = d1 * n := by
    exact hn1
  exact V.ret [0] [] [] [] [] [0, 1] (iv n1) (fun _ _ => by kernel_rfl) (fun _ _ => (Eq.trans (by kernel_rfl) (cong1 (fun (x0 : Int) => (iv x0 : Value)) e0)).trans (by kernel_rfl)) (fun _ _ => trivial)

set_option maxRecDepth 10000 in
theorem powc_ct2 (db : Nat) (d0 d1 d2 d3 d4 d5 : Int) (nb : Nat) (n : Int) (hd : Dm.Rt [d0, d1, d2, d3, d4, d5]) (hn : -10 ≤ n ∧ n ≤ 10) :
    Ct Try.prog 21 #[iv 2, pp db 0, pp nb 0] [] [.blk db #[iv d0, iv d1, iv d2, iv d3, iv d4, iv d5] 23, .blk nb #[iv n] 3] (fun g => iv (d2 * n)) (fun g => []) (fun g => [.blk db #[iv d0, iv d1, iv d2, iv d3, iv d4, iv d5] 23, .blk nb #[iv n] 3]) (fun g => []) := by
  refine V.fn mo Try.func21 10 0 (by kernel_rfl) fun w H ε k0 => ?_
  clear k0
  have hd6 := Dm.Rt6.1 hd
  have hm0 := Dm.mulB (x := d0) (n := n) (by omega) hn
  have hm1 := Dm.mulB (x := d1) (n := n) (by omega) hn
  have hm2 := Dm.mulB (x := d2) (n := n) (by omega) hn
  have hm3 := Dm.mulB (x := d3) (n := n) (by omega) hn
  have hm4 := Dm.mulB (x := d4) (n := n) (by omega) hn
  have hm5 := Dm.mulB (x := d5) (n := n) (by omega) hn
  refine V.go [.k (iv 0)] (fun _ _ => by kernel_rfl) fun _ _ G1 => ?_
  intro S1 t1
  refine nm (d2 * n : Int) fun n1 hn1 => ?_
  refine V.go [.k (iv 2),
    .k (pp db 2),
    .ld 0 2 false (fun _ => [iv d2]),
    .ld 1 0 false (fun _ => [iv n]),
    .ar (d2 * n) n1 hn1 (by omega) (by omega),
    .k (iv n1)] (fun _ _ => by kernel_rfl) fun _ _ G2 => ?_
  intro S2 t2
  have e0 : n1 = d2 * n := by
    exact hn1
  exact V.ret [0] [] [] [] [] [0, 1] (iv n1) (fun _ _ => by kernel_rfl) (fun _ _ => (Eq.trans (by kernel_rfl) (cong1 (fun (x0 : Int) => (iv x0 : Value)) e0)).trans (by kernel_rfl)) (fun _ _ => trivial)

set_option maxRecDepth 10000 in
theorem powc_ct3 (db : Nat) (d0 d1 d2 d3 d4 d5 : Int) (nb : Nat) (n : Int) (hd : Dm.Rt [d0, d1, d2, d3, d4, d5]) (hn : -10 ≤ n ∧ n ≤ 10) :
    Ct Try.prog 21 #[iv 3, pp db 0, pp nb 0] [] [.blk db #[iv d0, iv d1, iv d2, iv d3, iv d4, iv d5] 23, .blk nb #[iv n] 3] (fun g => iv (d3 * n)) (fun g => []) (fun g => [.blk db #[iv d0, iv d1, iv d2, iv d3, iv d4, iv d5] 23, .blk nb #[iv n] 3]) (fun g => []) := by
  refine V.fn mo Try.func21 10 0 (by kernel_rfl) fun w H ε k0 => ?_
  clear k0
  have hd6 := Dm.Rt6.1 hd
  have hm0 := Dm.mulB (x := d0) (n := n) (by omega) hn
  have hm1 := Dm.mulB (x := d1) (n := n) (by omega) hn
  have hm2 := Dm.mulB (x := d2) (n := n) (by omega) hn
  have hm3 := Dm.mulB (x := d3) (n := n) (by omega) hn
  have hm4 := Dm.mulB (x := d4) (n := n) (by omega) hn
  have hm5 := Dm.mulB (x := d5) (n := n) (by omega) hn
  refine V.go [.k (iv 0)] (fun _ _ => by kernel_rfl) fun _ _ G1 => ?_
  intro S1 t1
  refine nm (d3 * n : Int) fun n1 hn1 => ?_
  refine V.go [.k (iv 3),
    .k (pp db 3),
    .ld 0 3 false (fun _ => [iv d3]),
    .ld 1 0 false (fun _ => [iv n]),
    .ar (d3 * n) n1 hn1 (by omega) (by omega),
    .k (iv n1)] (fun _ _ => by kernel_rfl) fun _ _ G2 => ?_
  intro S2 t2
  have e0 : n1 = d3 * n := by
    exact hn1
  exact V.ret [0] [] [] [] [] [0, 1] (iv n1) (fun _ _ => by kernel_rfl) (fun _ _ => (Eq.trans (by kernel_rfl) (cong1 (fun (x0 : Int) => (iv x0 : Value)) e0)).trans (by kernel_rfl)) (fun _ _ => trivial)

set_option maxRecDepth 10000 in
theorem powc_ct4 (db : Nat) (d0 d1 d2 d3 d4 d5 : Int) (nb : Nat) (n : Int) (hd : Dm.Rt [d0, d1, d2, d3, d4, d5]) (hn : -10 ≤ n ∧ n ≤ 10) :
    Ct Try.prog 21 #[iv 4, pp db 0, pp nb 0] [] [.blk db #[iv d0, iv d1, iv d2, iv d3, iv d4, iv d5] 23, .blk nb #[iv n] 3] (fun g => iv (d4 * n)) (fun g => []) (fun g => [.blk db #[iv d0, iv d1, iv d2, iv d3, iv d4, iv d5] 23, .blk nb #[iv n] 3]) (fun g => []) := by
  refine V.fn mo Try.func21 10 0 (by kernel_rfl) fun w H ε k0 => ?_
  clear k0
  have hd6 := Dm.Rt6.1 hd
  have hm0 := Dm.mulB (x := d0) (n := n) (by omega) hn
  have hm1 := Dm.mulB (x := d1) (n := n) (by omega) hn
  have hm2 := Dm.mulB (x := d2) (n := n) (by omega) hn
  have hm3 := Dm.mulB (x := d3) (n := n) (by omega) hn
  have hm4 := Dm.mulB (x := d4) (n := n) (by omega) hn
  have hm5 := Dm.mulB (x := d5) (n := n) (by omega) hn
  refine V.go [.k (iv 0)] (fun _ _ => by kernel_rfl) fun _ _ G1 => ?_
  intro S1 t1
  refine nm (d4 * n : Int) fun n1 hn1 => ?_
  refine V.go [.k (iv 4),
    .k (pp db 4),
    .ld 0 4 false (fun _ => [iv d4]),
    .ld 1 0 false (fun _ => [iv n]),
    .ar (d4 * n) n1 hn1 (by omega) (by omega),
    .k (iv n1)] (fun _ _ => by kernel_rfl) fun _ _ G2 => ?_
  intro S2 t2
  have e0 : n1 = d4 * n := by
    exact hn1
  exact V.ret [0] [] [] [] [] [0, 1] (iv n1) (fun _ _ => by kernel_rfl) (fun _ _ => (Eq.trans (by kernel_rfl) (cong1 (fun (x0 : Int) => (iv x0 : Value)) e0)).trans (by kernel_rfl)) (fun _ _ => trivial)

set_option maxRecDepth 10000 in
theorem powc_ct5 (db : Nat) (d0 d1 d2 d3 d4 d5 : Int) (nb : Nat) (n : Int) (hd : Dm.Rt [d0, d1, d2, d3, d4, d5]) (hn : -10 ≤ n ∧ n ≤ 10) :
    Ct Try.prog 21 #[iv 5, pp db 0, pp nb 0] [] [.blk db #[iv d0, iv d1, iv d2, iv d3, iv d4, iv d5] 23, .blk nb #[iv n] 3] (fun g => iv (d5 * n)) (fun g => []) (fun g => [.blk db #[iv d0, iv d1, iv d2, iv d3, iv d4, iv d5] 23, .blk nb #[iv n] 3]) (fun g => []) := by
  refine V.fn mo Try.func21 10 0 (by kernel_rfl) fun w H ε k0 => ?_
  clear k0
  have hd6 := Dm.Rt6.1 hd
  have hm0 := Dm.mulB (x := d0) (n := n) (by omega) hn
  have hm1 := Dm.mulB (x := d1) (n := n) (by omega) hn
  have hm2 := Dm.mulB (x := d2) (n := n) (by omega) hn
  have hm3 := Dm.mulB (x := d3) (n := n) (by omega) hn
  have hm4 := Dm.mulB (x := d4) (n := n) (by omega) hn
  have hm5 := Dm.mulB (x := d5) (n := n) (by omega) hn
  refine V.go [.k (iv 0)] (fun _ _ => by kernel_rfl) fun _ _ G1 => ?_
  intro S1 t1
  refine nm (d5 * n : Int) fun n1 hn1 => ?_
  refine V.go [.k (iv 5),
    .k (pp db 5),
    .ld 0 5 false (fun _ => [iv d5]),
    .ld 1 0 false (fun _ => [iv n]),
    .ar (d5 * n) n1 hn1 (by omega) (by omega),
    .k (iv n1)] (fun _ _ => by kernel_rfl) fun _ _ G2 => ?_
  intro S2 t2
  have e0 : n1 = d5 * n := by
    exact hn1
  exact V.ret [0] [] [] [] [] [0, 1] (iv n1) (fun _ _ => by kernel_rfl) (fun _ _ => (Eq.trans (by kernel_rfl) (cong1 (fun (x0 : Int) => (iv x0 : Value)) e0)).trans (by kernel_rfl)) (fun _ _ => trivial)

set_option maxRecDepth 10000 in
set_option maxHeartbeats 4000000 in
theorem madem_ct (ab : Nat) (a0 a1 a2 a3 a4 a5 : Int) (bb : Nat) (b0 b1 b2 b3 b4 b5 : Int) (ha : Dm.Rt [a0, a1, a2, a3, a4, a5]) (hb2 : Dm.Rt [b0, b1, b2, b3, b4, b5]) :
    Ct Try.prog 18 #[.func (.func 19) #[] #[pp ab 0, pp bb 0]] [] [.blk ab #[iv a0, iv a1, iv a2, iv a3, iv a4, iv a5] 23, .blk bb #[iv b0, iv b1, iv b2, iv b3, iv b4, iv b5] 23] (fun g => .tuple #[.agg #[iv (Dm.mk [a0 + b0, a1 + b1, a2 + b2, a3 + b3, a4 + b4, a5 + b5] 0), iv (Dm.mk [a0 + b0, a1 + b1, a2 + b2, a3 + b3, a4 + b4, a5 + b5] 1), iv (Dm.mk [a0 + b0, a1 + b1, a2 + b2, a3 + b3, a4 + b4, a5 + b5] 2), iv (Dm.mk [a0 + b0, a1 + b1, a2 + b2, a3 + b3, a4 + b4, a5 + b5] 3), iv (Dm.mk [a0 + b0, a1 + b1, a2 + b2, a3 + b3, a4 + b4, a5 + b5] 4), iv (Dm.mk [a0 + b0, a1 + b1, a2 + b2, a3 + b3, a4 + b4, a5 + b5] 5)], iv (Dm.mkE [a0 + b0, a1 + b1, a2 + b2, a3 + b3, a4 + b4, a5 + b5])]) (fun g => []) (fun g => [.blk ab #[iv a0, iv a1, iv a2, iv a3, iv a4, iv a5] 23, .blk bb #[iv b0, iv b1, iv b2, iv b3, iv b4, iv b5] 23]) (fun g => []) := by
  refine V.fn mo Try.func18 20 2 (by kernel_rfl) fun w H ε k0 => ?_
  clear k0
  refine V.go [.nb 0 2 (fun b => pp b 0) 23 (fun _ => #[iv 0, iv 0, iv 0, iv 0, iv 0, iv 0]),
    .k (iv 0)] (fun _ _ => by kernel_rfl) fun _ _ G1 => ?_
  intro S1 t1
  refine V.go [.nb 0 3 (fun b => pp b 0) 23 (fun _ => #[iv 0, iv 0, iv 0, iv 0, iv 0, iv 0])] (fun _ _ => by kernel_rfl) fun _ _ G2 => ?_
  intro S2 t2
  refine V.go [.k (iv 0)] (fun _ _ => by kernel_rfl) fun _ _ G3 => ?_
  intro S3 t3
  refine V.unroll 99 (by kernel_rfl) ?_
  refine V.go [.k (bv true)] (fun _ _ => by kernel_rfl) fun _ _ G4 => ?_
  intro S4 t4
  refine V.condT (by kernel_rfl) ?_
  refine V.go [.k (iv 0),
    .k (iv 0)] (fun _ _ => by kernel_rfl) fun _ _ G5 => ?_
  intro S5 t5
  refine V.go [.k (iv 0),
    .k (.func (.func 19) #[] #[pp ab 0, pp bb 0]),
    .k (iv 0),
    .ct g0 3 19 false [0, 1] [] [] (fun _ G => mulc_ct0 ab a0 a1 a2 a3 a4 a5 bb b0 b1 b2 b3 b4 b5 (by assumption) (by assumption)),
    .k (pp ((G2 0).b) 0),
    .st 3 (fun _ => .blk ((G2 0).b) #[iv (a0 + b0), iv 0, iv 0, iv 0, iv 0, iv 0] 23)] (fun _ _ => by kernel_rfl) fun _ _ G6 => ?_
  intro S6 t6
  refine V.go [.k (iv 1),
    .k (iv 1)] (fun _ _ => by kernel_rfl) fun _ _ G7 => ?_
  intro S7 t7
  refine V.again 98 (by kernel_rfl) ?_
  refine V.go [.k (bv true)] (fun _ _ => by kernel_rfl) fun _ _ G8 => ?_
  intro S8 t8
  refine V.condT (by kernel_rfl) ?_
  refine V.go [.k (iv 1),
    .k (iv 1)] (fun _ _ => by kernel_rfl) fun _ _ G9 => ?_
  intro S9 t9
  refine V.go [.k (iv 1),
    .k (.func (.func 19) #[] #[pp ab 0, pp bb 0]),
    .k (iv 1),
    .ct g0 3 19 false [0, 1] [] [] (fun _ G => mulc_ct1 ab a0 a1 a2 a3 a4 a5 bb b0 b1 b2 b3 b4 b5 (by assumption) (by assumption)),
    .k (pp ((G2 0).b) 1),
    .st 3 (fun _ => .blk ((G2 0).b) #[iv (a0 + b0), iv (a1 + b1), iv 0, iv 0, iv 0, iv 0] 23)] (fun _ _ => by kernel_rfl) fun _ _ G10 => ?_
  intro S10 t10
  refine V.go [.k (iv 2),
    .k (iv 2)] (fun _ _ => by kernel_rfl) fun _ _ G11 => ?_
  intro S11 t11
  refine V.again 97 (by kernel_rfl) ?_
  refine V.go [.k (bv true)] (fun _ _ => by kernel_rfl) fun _ _ G12 => ?_
  intro S12 t12
  refine V.condT (by kernel_rfl) ?_
  refine V.go [.k (iv 2),
    .k (iv 2)] (fun _ _ => by kernel_rfl) fun _ _ G13 => ?_
  intro S13 t13
  refine V.go [.k (iv 2),
    .k (.func (.func 19) #[] #[pp ab 0, pp bb 0]),
    .k (iv 2),
    .ct g0 3 19 false [0, 1] [] [] (fun _ G => mulc_ct2 ab a0 a1 a2 a3 a4 a5 bb b0 b1 b2 b3 b4 b5 (by assumption) (by assumption)),
    .k (pp ((G2 0).b) 2),
    .st 3 (fun _ => .blk ((G2 0).b) #[iv (a0 + b0), iv (a1 + b1), iv (a2 + b2), iv 0, iv 0, iv 0] 23)] (fun _ _ => by kernel_rfl) fun _ _ G14 => ?_
  intro S14 t14
  refine V.go [.k (iv 3),
    .k (iv 3)] (fun _ _ => by kernel_rfl) fun _ _ G15 => ?_
  intro S15 t15
  refine V.again 96 (by kernel_rfl) ?_
  refine V.go [.k (bv true)] (fun _ _ => by kernel_rfl) fun _ _ G16 => ?_
  intro S16 t16
  refine V.condT (by kernel_rfl) ?_
  refine V.go [.k (iv 3),
    .k (iv 3)] (fun _ _ => by kernel_rfl) fun _ _ G17 => ?_
  intro S17 t17
  refine V.go [.k (iv 3),
    .k (.func (.func 19) #[] #[pp ab 0, pp bb 0]),
    .k (iv 3),
    .ct g0 3 19 false [0, 1] [] [] (fun _ G => mulc_ct3 ab a0 a1 a2 a3 a4 a5 bb b0 b1 b2 b3 b4 b5 (by assumption) (by assumption)),
    .k (pp ((G2 0).b) 3),
    .st 3 (fun _ => .blk ((G2 0).b) #[iv (a0 + b0), iv (a1 + b1), iv (a2 + b2), iv (a3 + b3), iv 0, iv 0] 23)] (fun _ _ => by kernel_rfl) fun _ _ G18 => ?_
  intro S18 t18
  refine V.go [.k (iv 4),
    .k (iv 4)] (fun _ _ => by kernel_rfl) fun _ _ G19 => ?_
  intro S19 t19
  refine V.again 95 (by kernel_rfl) ?_
  refine V.go [.k (bv true)] (fun _ _ => by kernel_rfl) fun _ _ G20 => ?_
  intro S20 t20
  refine V.condT (by kernel_rfl) ?_
  refine V.go [.k (iv 4),
    .k (iv 4)] (fun _ _ => by kernel_rfl) fun _ _ G21 => ?_
  intro S21 t21
  refine V.go [.k (iv 4),
    .k (.func (.func 19) #[] #[pp ab 0, pp bb 0]),
    .k (iv 4),
    .ct g0 3 19 false [0, 1] [] [] (fun _ G => mulc_ct4 ab a0 a1 a2 a3 a4 a5 bb b0 b1 b2 b3 b4 b5 (by assumption) (by assumption)),
    .k (pp ((G2 0).b) 4),
    .st 3 (fun _ => .blk ((G2 0).b) #[iv (a0 + b0), iv (a1 + b1), iv (a2 + b2), iv (a3 + b3), iv (a4 + b4), iv 0] 23)] (fun _ _ => by kernel_rfl) fun _ _ G22 => ?_
  intro S22 t22
  refine V.go [.k (iv 5),
    .k (iv 5)] (fun _ _ => by kernel_rfl) fun _ _ G23 => ?_
  intro S23 t23
  refine V.again 94 (by kernel_rfl) ?_
  refine V.go [.k (bv true)] (fun _ _ => by kernel_rfl) fun _ _ G24 => ?_
  intro S24 t24
  refine V.condT (by kernel_rfl) ?_
  refine V.go [.k (iv 5),
    .k (iv 5)] (fun _ _ => by kernel_rfl) fun _ _ G25 => ?_
  intro S25 t25
  refine V.go [.k (iv 5),
    .k (.func (.func 19) #[] #[pp ab 0, pp bb 0]),
    .k (iv 5),
    .ct g0 3 19 false [0, 1] [] [] (fun _ G => mulc_ct5 ab a0 a1 a2 a3 a4 a5 bb b0 b1 b2 b3 b4 b5 (by assumption) (by assumption)),
    .k (pp ((G2 0).b) 5),
    .st 3 (fun _ => .blk ((G2 0).b) #[iv (a0 + b0), iv (a1 + b1), iv (a2 + b2), iv (a3 + b3), iv (a4 + b4), iv (a5 + b5)] 23)] (fun _ _ => by kernel_rfl) fun _ _ G26 => ?_
  intro S26 t26
  refine V.go [.k (iv 6),
    .k (iv 6)] (fun _ _ => by kernel_rfl) fun _ _ G27 => ?_
  intro S27 t27
  refine V.again 93 (by kernel_rfl) ?_
  refine V.go [.k (bv false)] (fun _ _ => by kernel_rfl) fun _ _ G28 => ?_
  intro S28 t28
  refine V.condF (by kernel_rfl) ?_
  refine V.go [.ld 3 0 true (fun _ => [iv (a0 + b0), iv (a1 + b1), iv (a2 + b2), iv (a3 + b3), iv (a4 + b4), iv (a5 + b5)]),
    .cp g0 1 9 [] (fun _ G => right_ct (a0 + b0) (a1 + b1) (a2 + b2) (a3 + b3) (a4 + b4) (a5 + b5)),
    .k (bv (!(decide (Dm.Rt [(a0 + b0), (a1 + b1), (a2 + b2), (a3 + b3), (a4 + b4), (a5 + b5)]))))] (fun _ _ => by kernel_rfl) fun _ _ G29 => ?_
  intro S29 t29
  refine V.cond (b := !(decide (Dm.Rt [(a0 + b0), (a1 + b1), (a2 + b2), (a3 + b3), (a4 + b4), (a5 + b5)]))) (iNT iDF) (iNF iDT) (by kernel_rfl) (fun q1 => ?_) (fun q2 => ?_)
  · skip
    have hR : ¬ Dm.Rt [a0 + b0, a1 + b1, a2 + b2, a3 + b3, a4 + b4, a5 + b5] := q1
    refine V.go [.k (.agg #[iv 0, iv 0, iv 0, iv 0, iv 0, iv 0]),
      .st 2 (fun _ => .blk ((G1 0).b) #[iv 0, iv 0, iv 0, iv 0, iv 0, iv 0] 23),
      .k (iv 3)] (fun _ _ => by kernel_rfl) fun _ _ G30 => ?_
    intro S30 t30
    have e0 : (0 : Int) = Dm.mk [a0 + b0, a1 + b1, a2 + b2, a3 + b3, a4 + b4, a5 + b5] 0 := by
      exact (Dm.mk_n hR 0).symm
    have e1 : (0 : Int) = Dm.mk [a0 + b0, a1 + b1, a2 + b2, a3 + b3, a4 + b4, a5 + b5] 1 := by
      exact (Dm.mk_n hR 1).symm
    have e2 : (0 : Int) = Dm.mk [a0 + b0, a1 + b1, a2 + b2, a3 + b3, a4 + b4, a5 + b5] 2 := by
      exact (Dm.mk_n hR 2).symm
    have e3 : (0 : Int) = Dm.mk [a0 + b0, a1 + b1, a2 + b2, a3 + b3, a4 + b4, a5 + b5] 3 := by
      exact (Dm.mk_n hR 3).symm
    have e4 : (0 : Int) = Dm.mk [a0 + b0, a1 + b1, a2 + b2, a3 + b3, a4 + b4, a5 + b5] 4 := by
      exact (Dm.mk_n hR 4).symm
    have e5 : (0 : Int) = Dm.mk [a0 + b0, a1 + b1, a2 + b2, a3 + b3, a4 + b4, a5 + b5] 5 := by
      exact (Dm.mk_n hR 5).symm
    have e6 : (3 : Int) = Dm.mkE [a0 + b0, a1 + b1, a2 + b2, a3 + b3, a4 + b4, a5 + b5] := by
      exact (Dm.mkE_n hR).symm
    exact V.ret [2, 0] [] [] [] [] [0, 1] (.tuple #[.agg #[iv 0, iv 0, iv 0, iv 0, iv 0, iv 0], iv 3]) (fun _ _ => by kernel_rfl) (fun _ _ => (Eq.trans (by kernel_rfl) (cong7 (fun (x0 : Int) (x1 : Int) (x2 : Int) (x3 : Int) (x4 : Int) (x5 : Int) (x6 : Int) => (.tuple #[.agg #[iv x0, iv x1, iv x2, iv x3, iv x4, iv x5], iv x6] : Value)) e0 e1 e2 e3 e4 e5 e6)).trans (by kernel_rfl)) (fun _ _ => trivial)
  · skip
    have hR : Dm.Rt [a0 + b0, a1 + b1, a2 + b2, a3 + b3, a4 + b4, a5 + b5] := by first | exact q2 | exact Decidable.not_not.1 q2
    refine V.go [.ld 3 0 true (fun _ => [iv (a0 + b0), iv (a1 + b1), iv (a2 + b2), iv (a3 + b3), iv (a4 + b4), iv (a5 + b5)]),
      .st 2 (fun _ => .blk ((G1 0).b) #[iv (a0 + b0), iv (a1 + b1), iv (a2 + b2), iv (a3 + b3), iv (a4 + b4), iv (a5 + b5)] 23),
      .k (iv 0)] (fun _ _ => by kernel_rfl) fun _ _ G31 => ?_
    intro S31 t31
    have e0 : (a0 + b0) = Dm.mk [a0 + b0, a1 + b1, a2 + b2, a3 + b3, a4 + b4, a5 + b5] 0 := by
      exact (Dm.mk_y hR 0).symm
    have e1 : (a1 + b1) = Dm.mk [a0 + b0, a1 + b1, a2 + b2, a3 + b3, a4 + b4, a5 + b5] 1 := by
      exact (Dm.mk_y hR 1).symm
    have e2 : (a2 + b2) = Dm.mk [a0 + b0, a1 + b1, a2 + b2, a3 + b3, a4 + b4, a5 + b5] 2 := by
      exact (Dm.mk_y hR 2).symm
    have e3 : (a3 + b3) = Dm.mk [a0 + b0, a1 + b1, a2 + b2, a3 + b3, a4 + b4, a5 + b5] 3 := by
      exact (Dm.mk_y hR 3).symm
    have e4 : (a4 + b4) = Dm.mk [a0 + b0, a1 + b1, a2 + b2, a3 + b3, a4 + b4, a5 + b5] 4 := by
      exact (Dm.mk_y hR 4).symm
    have e5 : (a5 + b5) = Dm.mk [a0 + b0, a1 + b1, a2 + b2, a3 + b3, a4 + b4, a5 + b5] 5 := by
      exact (Dm.mk_y hR 5).symm
    have e6 : (0 : Int) = Dm.mkE [a0 + b0, a1 + b1, a2 + b2, a3 + b3, a4 + b4, a5 + b5] := by
      exact (Dm.mkE_y hR).symm
    exact V.ret [2, 0] [] [] [] [] [0, 1] (.tuple #[.agg #[iv (a0 + b0), iv (a1 + b1), iv (a2 + b2), iv (a3 + b3), iv (a4 + b4), iv (a5 + b5)], iv 0]) (fun _ _ => by kernel_rfl) (fun _ _ => (Eq.trans (by kernel_rfl) (cong7 (fun (x0 : Int) (x1 : Int) (x2 : Int) (x3 : Int) (x4 : Int) (x5 : Int) (x6 : Int) => (.tuple #[.agg #[iv x0, iv x1, iv x2, iv x3, iv x4, iv x5], iv x6] : Value)) e0 e1 e2 e3 e4 e5 e6)).trans (by kernel_rfl)) (fun _ _ => trivial)

set_option maxRecDepth 10000 in
set_option maxHeartbeats 4000000 in
theorem maded_ct (ab : Nat) (a0 a1 a2 a3 a4 a5 : Int) (bb : Nat) (b0 b1 b2 b3 b4 b5 : Int) (ha : Dm.Rt [a0, a1, a2, a3, a4, a5]) (hb2 : Dm.Rt [b0, b1, b2, b3, b4, b5]) :
    Ct Try.prog 18 #[.func (.func 20) #[] #[pp ab 0, pp bb 0]] [] [.blk ab #[iv a0, iv a1, iv a2, iv a3, iv a4, iv a5] 23, .blk bb #[iv b0, iv b1, iv b2, iv b3, iv b4, iv b5] 23] (fun g => .tuple #[.agg #[iv (Dm.mk [a0 - b0, a1 - b1, a2 - b2, a3 - b3, a4 - b4, a5 - b5] 0), iv (Dm.mk [a0 - b0, a1 - b1, a2 - b2, a3 - b3, a4 - b4, a5 - b5] 1), iv (Dm.mk [a0 - b0, a1 - b1, a2 - b2, a3 - b3, a4 - b4, a5 - b5] 2), iv (Dm.mk [a0 - b0, a1 - b1, a2 - b2, a3 - b3, a4 - b4, a5 - b5] 3), iv (Dm.mk [a0 - b0, a1 - b1, a2 - b2, a3 - b3, a4 - b4, a5 - b5] 4), iv (Dm.mk [a0 - b0, a1 - b1, a2 - b2, a3 - b3, a4 - b4, a5 - b5] 5)], iv (Dm.mkE [a0 - b0, a1 - b1, a2 - b2, a3 - b3, a4 - b4, a5 - b5])]) (fun g => []) (fun g => [.blk ab #[iv a0, iv a1, iv a2, iv a3, iv a4, iv a5] 23, .blk bb #[iv b0, iv b1, iv b2, iv b3, iv b4, iv b5] 23]) (fun g => []) := by
  refine V.fn mo Try.func18 20 2 (by kernel_rfl) fun w H ε k0 => ?_
  clear k0
  refine V.go [.nb 0 2 (fun b => pp b 0) 23 (fun _ => #[iv 0, iv 0, iv 0, iv 0, iv 0, iv 0]),
    .k (iv 0)] (fun _ _ => by kernel_rfl) fun _ _ G1 => ?_
  intro S1 t1
  refine V.go [.nb 0 3 (fun b => pp b 0) 23 (fun _ => #[iv 0, iv 0, iv 0, iv 0, iv 0, iv 0])] (fun _ _ => by kernel_rfl) fun _ _ G2 => ?_
  intro S2 t2
  refine V.go [.k (iv 0)] (fun _ _ => by kernel_rfl) fun _ _ G3 => ?_
  intro S3 t3
  refine V.unroll 99 (by kernel_rfl) ?_
  refine V.go [.k (bv true)] (fun _ _ => by kernel_rfl) fun _ _ G4 => ?_
  intro S4 t4
  refine V.condT (by kernel_rfl) ?_
  refine V.go [.k (iv 0),
    .k (iv 0)] (fun _ _ => by kernel_rfl) fun _ _ G5 => ?_
  intro S5 t5
  refine V.go [.k (iv 0),
    .k (.func (.func 20) #[] #[pp ab 0, pp bb 0]),
    .k (iv 0),
    .ct g0 3 20 false [0, 1] [] [] (fun _ G => divc_ct0 ab a0 a1 a2 a3 a4 a5 bb b0 b1 b2 b3 b4 b5 (by assumption) (by assumption)),
    .k (pp ((G2 0).b) 0),
    .st 3 (fun _ => .blk ((G2 0).b) #[iv (a0 - b0), iv 0, iv 0, iv 0, iv 0, iv 0] 23)] (fun _ _ => by kernel_rfl) fun _ _ G6 => ?_
  intro S6 t6
  refine V.go [.k (iv 1),
    .k (iv 1)] (fun _ _ => by kernel_rfl) fun _ _ G7 => ?_
  intro S7 t7
  refine V.again 98 (by kernel_rfl) ?_
  refine V.go [.k (bv true)] (fun _ _ => by kernel_rfl) fun _ _ G8 => ?_
  intro S8 t8
  refine V.condT (by kernel_rfl) ?_
  refine V.go [.k (iv 1),
    .k (iv 1)] (fun _ _ => by kernel_rfl) fun _ _ G9 => ?_
  intro S9 t9
  refine V.go [.k (iv 1),
    .k (.func (.func 20) #[] #[pp ab 0, pp bb 0]),
    .k (iv 1),
    .ct g0 3 20 false [0, 1] [] [] (fun _ G => divc_ct1 ab a0 a1 a2 a3 a4 a5 bb b0 b1 b2 b3 b4 b5 (by assumption) (by assumption)),
    .k (pp ((G2 0).b) 1),
    .st 3 (fun _ => .blk ((G2 0).b) #[iv (a0 - b0), iv (a1 - b1), iv 0, iv 0, iv 0, iv 0] 23)] (fun _ _ => by kernel_rfl) fun _ _ G10 => ?_
  intro S10 t10
  refine V.go [.k (iv 2),
    .k (iv 2)] (fun _ _ => by kernel_rfl) fun _ _ G11 => ?_
  intro S11 t11
  refine V.again 97 (by kernel_rfl) ?_
  refine V.go [.k (bv true)] (fun _ _ => by kernel_rfl) fun _ _ G12 => ?_
  intro S12 t12
  refine V.condT (by kernel_rfl) ?_
  refine V.go [.k (iv 2),
    .k (iv 2)] (fun _ _ => by kernel_rfl) fun _ _ G13 => ?_
  intro S13 t13
  refine V.go [.k (iv 2),
    .k (.func (.func 20) #[] #[pp ab 0, pp bb 0]),
    .k (iv 2),
    .ct g0 3 20 false [0, 1] [] [] (fun _ G => divc_ct2 ab a0 a1 a2 a3 a4 a5 bb b0 b1 b2 b3 b4 b5 (by assumption) (by assumption)),
    .k (pp ((G2 0).b) 2),
    .st 3 (fun _ => .blk ((G2 0).b) #[iv (a0 - b0), iv (a1 - b1), iv (a2 - b2), iv 0, iv 0, iv 0] 23)] (fun _ _ => by kernel_rfl) fun _ _ G14 => ?_
  intro S14 t14
  refine V.go [.k (iv 3),
    .k (iv 3)] (fun _ _ => by kernel_rfl) fun _ _ G15 => ?_
  intro S15 t15
  refine V.again 96 (by kernel_rfl) ?_
  refine V.go [.k (bv true)] (fun _ _ => by kernel_rfl) fun _ _ G16 => ?_
  intro S16 t16
  refine V.condT (by kernel_rfl) ?_
  refine V.go [.k (iv 3),
    .k (iv 3)] (fun _ _ => by kernel_rfl) fun _ _ G17 => ?_
  intro S17 t17
  refine V.go [.k (iv 3),
    .k (.func (.func 20) #[] #[pp ab 0, pp bb 0]),
    .k (iv 3),
    .ct g0 3 20 false [0, 1] [] [] (fun _ G => divc_ct3 ab a0 a1 a2 a3 a4 a5 bb b0 b1 b2 b3 b4 b5 (by assumption) (by assumption)),
    .k (pp ((G2 0).b) 3),
    .st 3 (fun _ => .blk ((G2 0).b) #[iv (a0 - b0), iv (a1 - b1), iv (a2 - b2), iv (a3 - b3), iv 0, iv 0] 23)] (fun _ _ => by kernel_rfl) fun _ _ G18 => ?_
  intro S18 t18
  refine V.go [.k (iv 4),
    .k (iv 4)] (fun _ _ => by kernel_rfl) fun _ _ G19 => ?_
  intro S19 t19
  refine V.again 95 (by kernel_rfl) ?_
  refine V.go [.k (bv true)] (fun _ _ => by kernel_rfl) fun _ _ G20 => ?_
  intro S20 t20
  refine V.condT (by kernel_rfl) ?_
  refine V.go [.k (iv 4),
    .k (iv 4)] (fun _ _ => by kernel_rfl) fun _ _ G21 => ?_
  intro S21 t21
  refine V.go [.k (iv 4),
    .k (.func (.func 20) #[] #[pp ab 0, pp bb 0]),
    .k (iv 4),
    .ct g0 3 20 false [0, 1] [] [] (fun _ G => divc_ct4 ab a0 a1 a2 a3 a4 a5 bb b0 b1 b2 b3 b4 b5 (by assumption) (by assumption)),
    .k (pp ((G2 0).b) 4),
    .st 3 (fun _ => .blk ((G2 0).b) #[iv (a0 - b0), iv (a1 - b1), iv (a2 - b2), iv (a3 - b3), iv (a4 - b4), iv 0] 23)] (fun _ _ => by kernel_rfl) fun _ _ G22 => ?_
  intro S22 t22
  refine V.go [.k (iv 5),
    .k (iv 5)] (fun _ _ => by kernel_rfl) fun _ _ G23 => ?_
  intro S23 t23
  refine V.again 94 (by kernel_rfl) ?_
  refine V.go [.k (bv true)] (fun _ _ => by kernel_rfl) fun _ _ G24 => ?_
  intro S24 t24
  refine V.condT (by kernel_rfl) ?_
  refine V.go [.k (iv 5),
    .k (iv 5)] (fun _ _ => by kernel_rfl) fun _ _ G25 => ?_
  intro S25 t25
  refine V.go [.k (iv 5),
    .k (.func (.func 20) #[] #[pp ab 0, pp bb 0]),
    .k (iv 5),
    .ct g0 3 20 false [0, 1] [] [] (fun _ G => divc_ct5 ab a0 a1 a2 a3 a4 a5 bb b0 b1 b2 b3 b4 b5 (by assumption) (by assumption)),
    .k (pp ((G2 0).b) 5),
    .st 3 (fun _ => .blk ((G2 0).b) #[iv (a0 - b0), iv (a1 - b1), iv (a2 - b2), iv (a3 - b3), iv (a4 - b4), iv (a5 - b5)] 23)] (fun _ _ => by kernel_rfl) fun _ _ G26 => ?_
  intro S26 t26
  refine V.go [.k (iv 6),
    .k (iv 6)] (fun _ _ => by kernel_rfl) fun _ _ G27 => ?_
  intro S27 t27
  refine V.again 93 (by kernel_rfl) ?_
  refine V.go [.k (bv false)] (fun _ _ => by kernel_rfl) fun _ _ G28 => ?_
  intro S28 t28
  refine V.condF (by kernel_rfl) ?_
  refine V.go [.ld 3 0 true (fun _ => [iv (a0 - b0), iv (a1 - b1), iv (a2 - b2), iv (a3 - b3), iv (a4 - b4), iv (a5 - b5)]),
    .cp g0 1 9 [] (fun _ G => right_ct (a0 - b0) (a1 - b1) (a2 - b2) (a3 - b3) (a4 - b4) (a5 - b5)),
    .k (bv (!(decide (Dm.Rt [(a0 - b0), (a1 - b1), (a2 - b2), (a3 - b3), (a4 - b4), (a5 - b5)]))))] (fun _ _ => by kernel_rfl) fun _ _ G29 => ?_
  intro S29 t29
  refine V.cond (b := !(decide (Dm.Rt [(a0 - b0), (a1 - b1), (a2 - b2), (a3 - b3), (a4 - b4), (a5 - b5)]))) (iNT iDF) (iNF iDT) (by kernel_rfl) (fun q1 => ?_) (fun q2 => ?_)
  · skip
    have hR : ¬ Dm.Rt [a0 - b0, a1 - b1, a2 - b2, a3 - b3, a4 - b4, a5 - b5] := q1
    refine V.go [.k (.agg #[iv 0, iv 0, iv 0, iv 0, iv 0, iv 0]),
      .st 2 (fun _ => .blk ((G1 0).b) #[iv 0, iv 0, iv 0, iv 0, iv 0, iv 0] 23),
      .k (iv 3)] (fun _ _ => by kernel_rfl) fun _ _ G30 => ?_
    intro S30 t30
    have e0 : (0 : Int) = Dm.mk [a0 - b0, a1 - b1, a2 - b2, a3 - b3, a4 - b4, a5 - b5] 0 := by
      exact (Dm.mk_n hR 0).symm
    have e1 : (0 : Int) = Dm.mk [a0 - b0, a1 - b1, a2 - b2, a3 - b3, a4 - b4, a5 - b5] 1 := by
      exact (Dm.mk_n hR 1).symm
    have e2 : (0 : Int) = Dm.mk [a0 - b0, a1 - b1, a2 - b2, a3 - b3, a4 - b4, a5 - b5] 2 := by
      exact (Dm.mk_n hR 2).symm
    have e3 : (0 : Int) = Dm.mk [a0 - b0, a1 - b1, a2 - b2, a3 - b3, a4 - b4, a5 - b5] 3 := by
      exact (Dm.mk_n hR 3).symm
    have e4 : (0 : Int) = Dm.mk [a0 - b0, a1 - b1, a2 - b2, a3 - b3, a4 - b4, a5 - b5] 4 := by
      exact (Dm.mk_n hR 4).symm
    have e5 : (0 : Int) = Dm.mk [a0 - b0, a1 - b1, a2 - b2, a3 - b3, a4 - b4, a5 - b5] 5 := by
      exact (Dm.mk_n hR 5).symm
    have e6 : (3 : Int) = Dm.mkE [a0 - b0, a1 - b1, a2 - b2, a3 - b3, a4 - b4, a5 - b5] := by
      exact (Dm.mkE_n hR).symm
    exact V.ret [2, 0] [] [] [] [] [0, 1] (.tuple #[.agg #[iv 0, iv 0, iv 0, iv 0, iv 0, iv 0], iv 3]) (fun _ _ => by kernel_rfl) (fun _ _ => (Eq.trans (by kernel_rfl) (cong7 (fun (x0 : Int) (x1 : Int) (x2 : Int) (x3 : Int) (x4 : Int) (x5 : Int) (x6 : Int) => (.tuple #[.agg #[iv x0, iv x1, iv x2, iv x3, iv x4, iv x5], iv x6] : Value)) e0 e1 e2 e3 e4 e5 e6)).trans (by kernel_rfl)) (fun _ _ => trivial)
  · skip
    have hR : Dm.Rt [a0 - b0, a1 - b1, a2 - b2, a3 - b3, a4 - b4, a5 - b5] := by first | exact q2 | exact Decidable.not_not.1 q2
    refine V.go [.ld 3 0 true (fun _ => [iv (a0 - b0), iv (a1 - b1), iv (a2 - b2), iv (a3 - b3), iv (a4 - b4), iv (a5 - b5)]),
      .st 2 (fun _ => .blk ((G1 0).b) #[iv (a0 - b0), iv (a1 - b1), iv (a2 - b2), iv (a3 - b3), iv (a4 - b4), iv (a5 - b5)] 23),
      .k (iv 0)] (fun _ _ => by kernel_rfl) fun _ _ G31 => ?_
    intro S31 t31
    have e0 : (a0 - b0) = Dm.mk [a0 - b0, a1 - b1, a2 - b2, a3 - b3, a4 - b4, a5 - b5] 0 := by
      exact (Dm.mk_y hR 0).symm
    have e1 : (a1 - b1) = Dm.mk [a0 - b0, a1 - b1, a2 - b2, a3 - b3, a4 - b4, a5 - b5] 1 := by
      exact (Dm.mk_y hR 1).symm
    have e2 : (a2 - b2) = Dm.mk [a0 - b0, a1 - b1, a2 - b2, a3 - b3, a4 - b4, a5 - b5] 2 := by
      exact (Dm.mk_y hR 2).symm
    have e3 : (a3 - b3) = Dm.mk [a0 - b0, a1 - b1, a2 - b2, a3 - b3, a4 - b4, a5 - b5] 3 := by
      exact (Dm.mk_y hR 3).symm
    have e4 : (a4 - b4) = Dm.mk [a0 - b0, a1 - b1, a2 - b2, a3 - b3, a4 - b4, a5 - b5] 4 := by
      exact (Dm.mk_y hR 4).symm
    have e5 : (a5 - b5) = Dm.mk [a0 - b0, a1 - b1, a2 - b2, a3 - b3, a4 - b4, a5 - b5] 5 := by
      exact (Dm.mk_y hR 5).symm
    have e6 : (0 : Int) = Dm.mkE [a0 - b0, a1 - b1, a2 - b2, a3 - b3, a4 - b4, a5 - b5] := by
      exact (Dm.mkE_y hR).symm
    exact V.ret [2, 0] [] [] [] [] [0, 1] (.tuple #[.agg #[iv (a0 - b0), iv (a1 - b1), iv (a2 - b2), iv (a3 - b3), iv (a4 - b4), iv (a5 - b5)], iv 0]) (fun _ _ => by kernel_rfl) (fun _ _ => (Eq.trans (by kernel_rfl) (cong7 (fun (x0 : Int) (x1 : Int) (x2 : Int) (x3 : Int) (x4 : Int) (x5 : Int) (x6 : Int) => (.tuple #[.agg #[iv x0, iv x1, iv x2, iv x3, iv x4, iv x5], iv x6] : Value)) e0 e1 e2 e3 e4 e5 e6)).trans (by kernel_rfl)) (fun _ _ => trivial)

set_option maxRecDepth 10000 in
set_option maxHeartbeats 4000000 in
theorem madep_ct (db : Nat) (d0 d1 d2 d3 d4 d5 : Int) (nb : Nat) (n : Int) (hd : Dm.Rt [d0, d1, d2, d3, d4, d5]) (hn : -10 ≤ n ∧ n ≤ 10) :
    Ct Try.prog 18 #[.func (.func 21) #[] #[pp db 0, pp nb 0]] [] [.blk db #[iv d0, iv d1, iv d2, iv d3, iv d4, iv d5] 23, .blk nb #[iv n] 3] (fun g => .tuple #[.agg #[iv (Dm.mk [d0 * n, d1 * n, d2 * n, d3 * n, d4 * n, d5 * n] 0), iv (Dm.mk [d0 * n, d1 * n, d2 * n, d3 * n, d4 * n, d5 * n] 1), iv (Dm.mk [d0 * n, d1 * n, d2 * n, d3 * n, d4 * n, d5 * n] 2), iv (Dm.mk [d0 * n, d1 * n, d2 * n, d3 * n, d4 * n, d5 * n] 3), iv (Dm.mk [d0 * n, d1 * n, d2 * n, d3 * n, d4 * n, d5 * n] 4), iv (Dm.mk [d0 * n, d1 * n, d2 * n, d3 * n, d4 * n, d5 * n] 5)], iv (Dm.mkE [d0 * n, d1 * n, d2 * n, d3 * n, d4 * n, d5 * n])]) (fun g => []) (fun g => [.blk db #[iv d0, iv d1, iv d2, iv d3, iv d4, iv d5] 23, .blk nb #[iv n] 3]) (fun g => []) := by
  refine V.fn mo Try.func18 20 2 (by kernel_rfl) fun w H ε k0 => ?_
  clear k0
  refine V.go [.nb 0 2 (fun b => pp b 0) 23 (fun _ => #[iv 0, iv 0, iv 0, iv 0, iv 0, iv 0]),
    .k (iv 0)] (fun _ _ => by kernel_rfl) fun _ _ G1 => ?_
  intro S1 t1
  refine V.go [.nb 0 3 (fun b => pp b 0) 23 (fun _ => #[iv 0, iv 0, iv 0, iv 0, iv 0, iv 0])] (fun _ _ => by kernel_rfl) fun _ _ G2 => ?_
  intro S2 t2
  refine V.go [.k (iv 0)] (fun _ _ => by kernel_rfl) fun _ _ G3 => ?_
  intro S3 t3
  refine V.unroll 99 (by kernel_rfl) ?_
  refine V.go [.k (bv true)] (fun _ _ => by kernel_rfl) fun _ _ G4 => ?_
  intro S4 t4
  refine V.condT (by kernel_rfl) ?_
  refine V.go [.k (iv 0),
    .k (iv 0)] (fun _ _ => by kernel_rfl) fun _ _ G5 => ?_
  intro S5 t5
  refine V.go [.k (iv 0),
    .k (.func (.func 21) #[] #[pp db 0, pp nb 0]),
    .k (iv 0),
    .ct g0 3 21 false [0, 1] [] [] (fun _ G => powc_ct0 db d0 d1 d2 d3 d4 d5 nb n (by assumption) (by assumption)),
    .k (pp ((G2 0).b) 0),
    .st 3 (fun _ => .blk ((G2 0).b) #[iv (d0 * n), iv 0, iv 0, iv 0, iv 0, iv 0] 23)] (fun _ _ => by kernel_rfl) fun _ _ G6 => ?_
  intro S6 t6
  refine V.go [.k (iv 1),
    .k (iv 1)] (fun _ _ => by kernel_rfl) fun _ _ G7 => ?_
  intro S7 t7
  refine V.again 98 (by kernel_rfl) ?_
  refine V.go [.k (bv true)] (fun _ _ => by kernel_rfl) fun _ _ G8 => ?_
  intro S8 t8
  refine V.condT (by kernel_rfl) ?_
  refine V.go [.k (iv 1),
    .k (iv 1)] (fun _ _ => by kernel_rfl) fun _ _ G9 => ?_
  intro S9 t9
  refine V.go [.k (iv 1),
    .k (.func (.func 21) #[] #[pp db 0, pp nb 0]),
    .k (iv 1),
    .ct g0 3 21 false [0, 1] [] [] (fun _ G => powc_ct1 db d0 d1 d2 d3 d4 d5 nb n (by assumption) (by assumption)),
    .k (pp ((G2 0).b) 1),
    .st 3 (fun _ => .blk ((G2 0).b) #[iv (d0 * n), iv (d1 * n), iv 0, iv 0, iv 0, iv 0] 23)] (fun _ _ => by kernel_rfl) fun _ _ G10 => ?_
  intro S10 t10
  refine V.go [.k (iv 2),
    .k (iv 2)] (fun _ _ => by kernel_rfl) fun _ _ G11 => ?_
  intro S11 t11
  refine V.again 97 (by kernel_rfl) ?_
  refine V.go [.k (bv true)] (fun _ _ => by kernel_rfl) fun _ _ G12 => ?_
  intro S12 t12
  refine V.condT (by kernel_rfl) ?_
  refine V.go [.k (iv 2),
    .k (iv 2)] (fun _ _ => by kernel_rfl) fun _ _ G13 => ?_
  intro S13 t13
  refine V.go [.k (iv 2),
    .k (.func (.func 21) #[] #[pp db 0, pp nb 0]),
    .k (iv 2),
    .ct g0 3 21 false [0, 1] [] [] (fun _ G => powc_ct2 db d0 d1 d2 d3 d4 d5 nb n (by assumption) (by assumption)),
    .k (pp ((G2 0).b) 2),
    .st 3 (fun _ => .blk ((G2 0).b) #[iv (d0 * n), iv (d1 * n), iv (d2 * n), iv 0, iv 0, iv 0] 23)] (fun _ _ => by kernel_rfl) fun _ _ G14 => ?_
  intro S14 t14
  refine V.go [.k (iv 3),
    .k (iv 3)] (fun _ _ => by kernel_rfl) fun _ _ G15 => ?_
  intro S15 t15
  refine V.again 96 (by kernel_rfl) ?_
  refine V.go [.k (bv true)] (fun _ _ => by kernel_rfl) fun _ _ G16 => ?_
  intro S16 t16
  refine V.condT (by kernel_rfl) ?_
  refine V.go [.k (iv 3),
    .k (iv 3)] (fun _ _ => by kernel_rfl) fun _ _ G17 => ?_
  intro S17 t17
  refine V.go [.k (iv 3),
    .k (.func (.func 21) #[] #[pp db 0, pp nb 0]),
    .k (iv 3),
    .ct g0 3 21 false [0, 1] [] [] (fun _ G => powc_ct3 db d0 d1 d2 d3 d4 d5 nb n (by assumption) (by assumption)),
    .k (pp ((G2 0).b) 3),
    .st 3 (fun _ => .blk ((G2 0).b) #[iv (d0 * n), iv (d1 * n), iv (d2 * n), iv (d3 * n), iv 0, iv 0] 23)] (fun _ _ => by kernel_rfl) fun _ _ G18 => ?_
  intro S18 t18
  refine V.go [.k (iv 4),
    .k (iv 4)] (fun _ _ => by kernel_rfl) fun _ _ G19 => ?_
  intro S19 t19
  refine V.again 95 (by kernel_rfl) ?_
  refine V.go [.k (bv true)] (fun _ _ => by kernel_rfl) fun _ _ G20 => ?_
  intro S20 t20
  refine V.condT (by kernel_rfl) ?_
  refine V.go [.k (iv 4),
    .k (iv 4)] (fun _ _ => by kernel_rfl) fun _ _ G21 => ?_
  intro S21 t21
  refine V.go [.k (iv 4),
    .k (.func (.func 21) #[] #[pp db 0, pp nb 0]),
    .k (iv 4),
    .ct g0 3 21 false [0, 1] [] [] (fun _ G => powc_ct4 db d0 d1 d2 d3 d4 d5 nb n (by assumption) (by assumption)),
    .k (pp ((G2 0).b) 4),
    .st 3 (fun _ => .blk ((G2 0).b) #[iv (d0 * n), iv (d1 * n), iv (d2 * n), iv (d3 * n), iv (d4 * n), iv 0] 23)] (fun _ _ => by kernel_rfl) fun _ _ G22 => ?_
  intro S22 t22
  refine V.go [.k (iv 5),
    .k (iv 5)] (fun _ _ => by kernel_rfl) fun _ _ G23 => ?_
  intro S23 t23
  refine V.again 94 (by kernel_rfl) ?_
  refine V.go [.k (bv true)] (fun _ _ => by kernel_rfl) fun _ _ G24 => ?_
  intro S24 t24
  refine V.condT (by kernel_rfl) ?_
  refine V.go [.k (iv 5),
    .k (iv 5)] (fun _ _ => by kernel_rfl) fun _ _ G25 => ?_
  intro S25 t25
  refine V.go [.k (iv 5),
    .k (.func (.func 21) #[] #[pp db 0, pp nb 0]),
    .k (iv 5),
    .ct g0 3 21 false [0, 1] [] [] (fun _ G => powc_ct5 db d0 d1 d2 d3 d4 d5 nb n (by assumption) (by assumption)),
    .k (pp ((G2 0).b) 5),
    .st 3 (fun _ => .blk ((G2 0).b) #[iv (d0 * n), iv (d1 * n), iv (d2 * n), iv (d3 * n), iv (d4 * n), iv (d5 * n)] 23)] (fun _ _ => by kernel_rfl) fun _ _ G26 => ?_
  intro S26 t26
  refine V.go [.k (iv 6),
    .k (iv 6)] (fun _ _ => by kernel_rfl) fun _ _ G27 => ?_
  intro S27 t27
  refine V.again 93 (by kernel_rfl) ?_
  refine V.go [.k (bv false)] (fun _ _ => by kernel_rfl) fun _ _ G28 => ?_
  intro S28 t28
  refine V.condF (by kernel_rfl) ?_
  refine V.go [.ld 3 0 true (fun _ => [iv (d0 * n), iv (d1 * n), iv (d2 * n), iv (d3 * n), iv (d4 * n), iv (d5 * n)]),
    .cp g0 1 9 [] (fun _ G => right_ct (d0 * n) (d1 * n) (d2 * n) (d3 * n) (d4 * n) (d5 * n)),
    .k (bv (!(decide (Dm.Rt [(d0 * n), (d1 * n), (d2 * n), (d3 * n), (d4 * n), (d5 * n)]))))] (fun _ _ => by kernel_rfl) fun _ _ G29 => ?_
  intro S29 t29
  refine V.cond (b := !(decide (Dm.Rt [(d0 * n), (d1 * n), (d2 * n), (d3 * n), (d4 * n), (d5 * n)]))) (iNT iDF) (iNF iDT) (by kernel_rfl) (fun q1 => ?_) (fun q2 => ?_)
  · skip
    have hR : ¬ Dm.Rt [d0 * n, d1 * n, d2 * n, d3 * n, d4 * n, d5 * n] := q1
    refine V.go [.k (.agg #[iv 0, iv 0, iv 0, iv 0, iv 0, iv 0]),
      .st 2 (fun _ => .blk ((G1 0).b) #[iv 0, iv 0, iv 0, iv 0, iv 0, iv 0] 23),
      .k (iv 3)] (fun _ _ => by kernel_rfl) fun _ _ G30 => ?_
    intro S30 t30
    have e0 : (0 : Int) = Dm.mk [d0 * n, d1 * n, d2 * n, d3 * n, d4 * n, d5 * n] 0 := by
      exact (Dm.mk_n hR 0).symm
    have e1 : (0 : Int) = Dm.mk [d0 * n, d1 * n, d2 * n, d3 * n, d4 * n, d5 * n] 1 := by
      exact (Dm.mk_n hR 1).symm
    have e2 : (0 : Int) = Dm.mk [d0 * n, d1 * n, d2 * n, d3 * n, d4 * n, d5 * n] 2 := by
      exact (Dm.mk_n hR 2).symm
    have e3 : (0 : Int) = Dm.mk [d0 * n, d1 * n, d2 * n, d3 * n, d4 * n, d5 * n] 3 := by
      exact (Dm.mk_n hR 3).symm
    have e4 : (0 : Int) = Dm.mk [d0 * n, d1 * n, d2 * n, d3 * n, d4 * n, d5 * n] 4 := by
      exact (Dm.mk_n hR 4).symm
    have e5 : (0 : Int) = Dm.mk [d0 * n, d1 * n, d2 * n, d3 * n, d4 * n, d5 * n] 5 := by
      exact (Dm.mk_n hR 5).symm
    have e6 : (3 : Int) = Dm.mkE [d0 * n, d1 * n, d2 * n, d3 * n, d4 * n, d5 * n] := by
      exact (Dm.mkE_n hR).symm
    exact V.ret [2, 0] [] [] [] [] [0, 1] (.tuple #[.agg #[iv 0, iv 0, iv 0, iv 0, iv 0, iv 0], iv 3]) (fun _ _ => by kernel_rfl) (fun _ _ => (Eq.trans (by kernel_rfl) (cong7 (fun (x0 : Int) (x1 : Int) (x2 : Int) (x3 : Int) (x4 : Int) (x5 : Int) (x6 : Int) => (.tuple #[.agg #[iv x0, iv x1, iv x2, iv x3, iv x4, iv x5], iv x6] : Value)) e0 e1 e2 e3 e4 e5 e6)).trans (by kernel_rfl)) (fun _ _ => trivial)
  · skip
    have hR : Dm.Rt [d0 * n, d1 * n, d2 * n, d3 * n, d4 * n, d5 * n] := by first | exact q2 | exact Decidable.not_not.1 q2
    refine V.go [.ld 3 0 true (fun _ => [iv (d0 * n), iv (d1 * n), iv (d2 * n), iv (d3 * n), iv (d4 * n), iv (d5 * n)]),
      .st 2 (fun _ => .blk ((G1 0).b) #[iv (d0 * n), iv (d1 * n), iv (d2 * n), iv (d3 * n), iv (d4 * n), iv (d5 * n)] 23),
      .k (iv 0)] (fun _ _ => by kernel_rfl) fun _ _ G31 => ?_
    intro S31 t31
    have e0 : (d0 * n) = Dm.mk [d0 * n, d1 * n, d2 * n, d3 * n, d4 * n, d5 * n] 0 := by
      exact (Dm.mk_y hR 0).symm
    have e1 : (d1 * n) = Dm.mk [d0 * n, d1 * n, d2 * n, d3 * n, d4 * n, d5 * n] 1 := by
      exact (Dm.mk_y hR 1).symm
    have e2 : (d2 * n) = Dm.mk [d0 * n, d1 * n, d2 * n, d3 * n, d4 * n, d5 * n] 2 := by
      exact (Dm.mk_y hR 2).symm
    have e3 : (d3 * n) = Dm.mk [d0 * n, d1 * n, d2 * n, d3 * n, d4 * n, d5 * n] 3 := by
      exact (Dm.mk_y hR 3).symm
    have e4 : (d4 * n) = Dm.mk [d0 * n, d1 * n, d2 * n, d3 * n, d4 * n, d5 * n] 4 := by
      exact (Dm.mk_y hR 4).symm
    have e5 : (d5 * n) = Dm.mk [d0 * n, d1 * n, d2 * n, d3 * n, d4 * n, d5 * n] 5 := by
      exact (Dm.mk_y hR 5).symm
    have e6 : (0 : Int) = Dm.mkE [d0 * n, d1 * n, d2 * n, d3 * n, d4 * n, d5 * n] := by
      exact (Dm.mkE_y hR).symm
    exact V.ret [2, 0] [] [] [] [] [0, 1] (.tuple #[.agg #[iv (d0 * n), iv (d1 * n), iv (d2 * n), iv (d3 * n), iv (d4 * n), iv (d5 * n)], iv 0]) (fun _ _ => by kernel_rfl) (fun _ _ => (Eq.trans (by kernel_rfl) (cong7 (fun (x0 : Int) (x1 : Int) (x2 : Int) (x3 : Int) (x4 : Int) (x5 : Int) (x6 : Int) => (.tuple #[.agg #[iv x0, iv x1, iv x2, iv x3, iv x4, iv x5], iv x6] : Value)) e0 e1 e2 e3 e4 e5 e6)).trans (by kernel_rfl)) (fun _ _ => trivial)

set_option maxRecDepth 10000 in
theorem mul_ct (a0 a1 a2 a3 a4 a5 b0 b1 b2 b3 b4 b5 : Int) :
    Cp Try.prog 10 #[.agg #[iv a0, iv a1, iv a2, iv a3, iv a4, iv a5], .agg #[iv b0, iv b1, iv b2, iv b3, iv b4, iv b5]] [] (.tuple #[.agg #[iv (Dm.opV (Dm.Rt [a0, a1, a2, a3, a4, a5] ∧ Dm.Rt [b0, b1, b2, b3, b4, b5]) [a0 + b0, a1 + b1, a2 + b2, a3 + b3, a4 + b4, a5 + b5] 0), iv (Dm.opV (Dm.Rt [a0, a1, a2, a3, a4, a5] ∧ Dm.Rt [b0, b1, b2, b3, b4, b5]) [a0 + b0, a1 + b1, a2 + b2, a3 + b3, a4 + b4, a5 + b5] 1), iv (Dm.opV (Dm.Rt [a0, a1, a2, a3, a4, a5] ∧ Dm.Rt [b0, b1, b2, b3, b4, b5]) [a0 + b0, a1 + b1, a2 + b2, a3 + b3, a4 + b4, a5 + b5] 2), iv (Dm.opV (Dm.Rt [a0, a1, a2, a3, a4, a5] ∧ Dm.Rt [b0, b1, b2, b3, b4, b5]) [a0 + b0, a1 + b1, a2 + b2, a3 + b3, a4 + b4, a5 + b5] 3), iv (Dm.opV (Dm.Rt [a0, a1, a2, a3, a4, a5] ∧ Dm.Rt [b0, b1, b2, b3, b4, b5]) [a0 + b0, a1 + b1, a2 + b2, a3 + b3, a4 + b4, a5 + b5] 4), iv (Dm.opV (Dm.Rt [a0, a1, a2, a3, a4, a5] ∧ Dm.Rt [b0, b1, b2, b3, b4, b5]) [a0 + b0, a1 + b1, a2 + b2, a3 + b3, a4 + b4, a5 + b5] 5)], iv (Dm.opE (Dm.Rt [a0, a1, a2, a3, a4, a5] ∧ Dm.Rt [b0, b1, b2, b3, b4, b5]) [a0 + b0, a1 + b1, a2 + b2, a3 + b3, a4 + b4, a5 + b5])]) := by
  refine V.fn mo Try.func10 19 3 (by kernel_rfl) fun w H ε k0 => ?_
  clear k0
  refine V.go [.nb 0 0 (fun b => pp b 0) 23 (fun _ => #[iv a0, iv a1, iv a2, iv a3, iv a4, iv a5]),
    .nb 1 1 (fun b => pp b 0) 23 (fun _ => #[iv b0, iv b1, iv b2, iv b3, iv b4, iv b5]),
    .nb 2 2 (fun b => pp b 0) 23 (fun _ => #[iv 0, iv 0, iv 0, iv 0, iv 0, iv 0]),
    .k (iv 0)] (fun _ _ => by kernel_rfl) fun _ _ G1 => ?_
  intro S1 t1
  refine nm ((!(decide (Dm.Rt [a0, a1, a2, a3, a4, a5]))) || (!(decide (Dm.Rt [b0, b1, b2, b3, b4, b5]))) : Bool) fun p1 hp1 => ?_
  refine V.go [.ld 0 0 true (fun _ => [iv a0, iv a1, iv a2, iv a3, iv a4, iv a5]),
    .cp g0 1 9 [] (fun _ G => right_ct a0 a1 a2 a3 a4 a5),
    .k (bv (!(decide (Dm.Rt [a0, a1, a2, a3, a4, a5])))),
    .k (bv (!(decide (Dm.Rt [a0, a1, a2, a3, a4, a5])))),
    .ld 1 0 true (fun _ => [iv b0, iv b1, iv b2, iv b3, iv b4, iv b5]),
    .cp (gF (b := !(decide (Dm.Rt [a0, a1, a2, a3, a4, a5]))) (iNF iDT)) 5 9 [] (fun hg G => right_ct b0 b1 b2 b3 b4 b5),
    .k (bv (!(decide (Dm.Rt [b0, b1, b2, b3, b4, b5])))),
    .orn g0 false (!(decide (Dm.Rt [a0, a1, a2, a3, a4, a5]))) (!(decide (Dm.Rt [b0, b1, b2, b3, b4, b5]))) p1 hp1] (fun _ _ => by kernel_rfl) fun _ _ G2 => ?_
  intro S2 t2
  refine V.cond (b := p1) (iN hp1 (iOT (iNT iDF) (iNT iDF))) (iN hp1 (iOF (iNF iDT) (iNF iDT))) (by kernel_rfl) (fun q1 => ?_) (fun q2 => ?_)
  · skip
    have hN : ¬ (Dm.Rt [a0, a1, a2, a3, a4, a5] ∧ Dm.Rt [b0, b1, b2, b3, b4, b5]) := by rintro ⟨h1, h2⟩; rcases q1 with h | h; exact h h1; exact h h2
    refine V.go [.k (.agg #[iv 0, iv 0, iv 0, iv 0, iv 0, iv 0]),
      .st 2 (fun _ => .blk ((G1 2).b) #[iv 0, iv 0, iv 0, iv 0, iv 0, iv 0] 23),
      .k (iv 1)] (fun _ _ => by kernel_rfl) fun _ _ G3 => ?_
    intro S3 t3
    have e0 : (0 : Int) = Dm.opV (Dm.Rt [a0, a1, a2, a3, a4, a5] ∧ Dm.Rt [b0, b1, b2, b3, b4, b5]) [a0 + b0, a1 + b1, a2 + b2, a3 + b3, a4 + b4, a5 + b5] 0 := by
      exact (Dm.opV_n hN _ 0).symm
    have e1 : (0 : Int) = Dm.opV (Dm.Rt [a0, a1, a2, a3, a4, a5] ∧ Dm.Rt [b0, b1, b2, b3, b4, b5]) [a0 + b0, a1 + b1, a2 + b2, a3 + b3, a4 + b4, a5 + b5] 1 := by
      exact (Dm.opV_n hN _ 1).symm
    have e2 : (0 : Int) = Dm.opV (Dm.Rt [a0, a1, a2, a3, a4, a5] ∧ Dm.Rt [b0, b1, b2, b3, b4, b5]) [a0 + b0, a1 + b1, a2 + b2, a3 + b3, a4 + b4, a5 + b5] 2 := by
      exact (Dm.opV_n hN _ 2).symm
    have e3 : (0 : Int) = Dm.opV (Dm.Rt [a0, a1, a2, a3, a4, a5] ∧ Dm.Rt [b0, b1, b2, b3, b4, b5]) [a0 + b0, a1 + b1, a2 + b2, a3 + b3, a4 + b4, a5 + b5] 3 := by
      exact (Dm.opV_n hN _ 3).symm
    have e4 : (0 : Int) = Dm.opV (Dm.Rt [a0, a1, a2, a3, a4, a5] ∧ Dm.Rt [b0, b1, b2, b3, b4, b5]) [a0 + b0, a1 + b1, a2 + b2, a3 + b3, a4 + b4, a5 + b5] 4 := by
      exact (Dm.opV_n hN _ 4).symm
    have e5 : (0 : Int) = Dm.opV (Dm.Rt [a0, a1, a2, a3, a4, a5] ∧ Dm.Rt [b0, b1, b2, b3, b4, b5]) [a0 + b0, a1 + b1, a2 + b2, a3 + b3, a4 + b4, a5 + b5] 5 := by
      exact (Dm.opV_n hN _ 5).symm
    have e6 : (1 : Int) = Dm.opE (Dm.Rt [a0, a1, a2, a3, a4, a5] ∧ Dm.Rt [b0, b1, b2, b3, b4, b5]) [a0 + b0, a1 + b1, a2 + b2, a3 + b3, a4 + b4, a5 + b5] := by
      exact (Dm.opE_n hN _).symm
    exact V.ret [2, 0] [] [] [] [] [] (.tuple #[.agg #[iv 0, iv 0, iv 0, iv 0, iv 0, iv 0], iv 1]) (fun _ _ => by kernel_rfl) (fun _ _ => (Eq.trans (by kernel_rfl) (cong7 (fun (x0 : Int) (x1 : Int) (x2 : Int) (x3 : Int) (x4 : Int) (x5 : Int) (x6 : Int) => (.tuple #[.agg #[iv x0, iv x1, iv x2, iv x3, iv x4, iv x5], iv x6] : Value)) e0 e1 e2 e3 e4 e5 e6)).trans (by kernel_rfl)) (fun _ _ => trivial)
  · skip
    have hY : (Dm.Rt [a0, a1, a2, a3, a4, a5] ∧ Dm.Rt [b0, b1, b2, b3, b4, b5]) := q2
    obtain ⟨ha, hb2⟩ := hY
    have hY : (Dm.Rt [a0, a1, a2, a3, a4, a5] ∧ Dm.Rt [b0, b1, b2, b3, b4, b5]) := ⟨ha, hb2⟩
    refine V.go [.k (.func (.func 19) #[] #[pp ((G1 0).b) 0, pp ((G1 1).b) 0]),
      .ct g0 1 18 false [0, 1] [] [] (fun _ G => madem_ct ((G1 0).b) a0 a1 a2 a3 a4 a5 ((G1 1).b) b0 b1 b2 b3 b4 b5 (by assumption) (by assumption)),
      .k (.agg #[iv (Dm.mk [a0 + b0, a1 + b1, a2 + b2, a3 + b3, a4 + b4, a5 + b5] 0), iv (Dm.mk [a0 + b0, a1 + b1, a2 + b2, a3 + b3, a4 + b4, a5 + b5] 1), iv (Dm.mk [a0 + b0, a1 + b1, a2 + b2, a3 + b3, a4 + b4, a5 + b5] 2), iv (Dm.mk [a0 + b0, a1 + b1, a2 + b2, a3 + b3, a4 + b4, a5 + b5] 3), iv (Dm.mk [a0 + b0, a1 + b1, a2 + b2, a3 + b3, a4 + b4, a5 + b5] 4), iv (Dm.mk [a0 + b0, a1 + b1, a2 + b2, a3 + b3, a4 + b4, a5 + b5] 5)]),
      .k (iv (Dm.mkE [a0 + b0, a1 + b1, a2 + b2, a3 + b3, a4 + b4, a5 + b5])),
      .st 2 (fun _ => .blk ((G1 2).b) #[iv (Dm.mk [a0 + b0, a1 + b1, a2 + b2, a3 + b3, a4 + b4, a5 + b5] 0), iv (Dm.mk [a0 + b0, a1 + b1, a2 + b2, a3 + b3, a4 + b4, a5 + b5] 1), iv (Dm.mk [a0 + b0, a1 + b1, a2 + b2, a3 + b3, a4 + b4, a5 + b5] 2), iv (Dm.mk [a0 + b0, a1 + b1, a2 + b2, a3 + b3, a4 + b4, a5 + b5] 3), iv (Dm.mk [a0 + b0, a1 + b1, a2 + b2, a3 + b3, a4 + b4, a5 + b5] 4), iv (Dm.mk [a0 + b0, a1 + b1, a2 + b2, a3 + b3, a4 + b4, a5 + b5] 5)] 23),
      .k (iv (Dm.mkE [a0 + b0, a1 + b1, a2 + b2, a3 + b3, a4 + b4, a5 + b5]))] (fun _ _ => by kernel_rfl) fun _ _ G4 => ?_
    intro S4 t4
    have e0 : (Dm.mk [a0 + b0, a1 + b1, a2 + b2, a3 + b3, a4 + b4, a5 + b5] 0) = Dm.opV (Dm.Rt [a0, a1, a2, a3, a4, a5] ∧ Dm.Rt [b0, b1, b2, b3, b4, b5]) [a0 + b0, a1 + b1, a2 + b2, a3 + b3, a4 + b4, a5 + b5] 0 := by
      exact (Dm.opV_y hY _ 0).symm
    have e1 : (Dm.mk [a0 + b0, a1 + b1, a2 + b2, a3 + b3, a4 + b4, a5 + b5] 1) = Dm.opV (Dm.Rt [a0, a1, a2, a3, a4, a5] ∧ Dm.Rt [b0, b1, b2, b3, b4, b5]) [a0 + b0, a1 + b1, a2 + b2, a3 + b3, a4 + b4, a5 + b5] 1 := by
      exact (Dm.opV_y hY _ 1).symm
    have e2 : (Dm.mk [a0 + b0, a1 + b1, a2 + b2, a3 + b3, a4 + b4, a5 + b5] 2) = Dm.opV (Dm.Rt [a0, a1, a2, a3, a4, a5] ∧ Dm.Rt [b0, b1, b2, b3, b4, b5]) [a0 + b0, a1 + b1, a2 + b2, a3 + b3, a4 + b4, a5 + b5] 2 := by
      exact (Dm.opV_y hY _ 2).symm
    have e3 : (Dm.mk [a0 + b0, a1 + b1, a2 + b2, a3 + b3, a4 + b4, a5 + b5] 3) = Dm.opV (Dm.Rt [a0, a1, a2, a3, a4, a5] ∧ Dm.Rt [b0, b1, b2, b3, b4, b5]) [a0 + b0, a1 + b1, a2 + b2, a3 + b3, a4 + b4, a5 + b5] 3 := by
      exact (Dm.opV_y hY _ 3).symm
    have e4 : (Dm.mk [a0 + b0, a1 + b1, a2 + b2, a3 + b3, a4 + b4, a5 + b5] 4) = Dm.opV (Dm.Rt [a0, a1, a2, a3, a4, a5] ∧ Dm.Rt [b0, b1, b2, b3, b4, b5]) [a0 + b0, a1 + b1, a2 + b2, a3 + b3, a4 + b4, a5 + b5] 4 := by
      exact (Dm.opV_y hY _ 4).symm
    have e5 : (Dm.mk [a0 + b0, a1 + b1, a2 + b2, a3 + b3, a4 + b4, a5 + b5] 5) = Dm.opV (Dm.Rt [a0, a1, a2, a3, a4, a5] ∧ Dm.Rt [b0, b1, b2, b3, b4, b5]) [a0 + b0, a1 + b1, a2 + b2, a3 + b3, a4 + b4, a5 + b5] 5 := by
      exact (Dm.opV_y hY _ 5).symm
    have e6 : (Dm.mkE [a0 + b0, a1 + b1, a2 + b2, a3 + b3, a4 + b4, a5 + b5]) = Dm.opE (Dm.Rt [a0, a1, a2, a3, a4, a5] ∧ Dm.Rt [b0, b1, b2, b3, b4, b5]) [a0 + b0, a1 + b1, a2 + b2, a3 + b3, a4 + b4, a5 + b5] := by
      exact (Dm.opE_y hY _).symm
    exact V.ret [2, 0] [] [] [] [] [] (.tuple #[.agg #[iv (Dm.mk [a0 + b0, a1 + b1, a2 + b2, a3 + b3, a4 + b4, a5 + b5] 0), iv (Dm.mk [a0 + b0, a1 + b1, a2 + b2, a3 + b3, a4 + b4, a5 + b5] 1), iv (Dm.mk [a0 + b0, a1 + b1, a2 + b2, a3 + b3, a4 + b4, a5 + b5] 2), iv (Dm.mk [a0 + b0, a1 + b1, a2 + b2, a3 + b3, a4 + b4, a5 + b5] 3), iv (Dm.mk [a0 + b0, a1 + b1, a2 + b2, a3 + b3, a4 + b4, a5 + b5] 4), iv (Dm.mk [a0 + b0, a1 + b1, a2 + b2, a3 + b3, a4 + b4, a5 + b5] 5)], iv (Dm.mkE [a0 + b0, a1 + b1, a2 + b2, a3 + b3, a4 + b4, a5 + b5])]) (fun _ _ => by kernel_rfl) (fun _ _ => (Eq.trans (by kernel_rfl) (cong7 (fun (x0 : Int) (x1 : Int) (x2 : Int) (x3 : Int) (x4 : Int) (x5 : Int) (x6 : Int) => (.tuple #[.agg #[iv x0, iv x1, iv x2, iv x3, iv x4, iv x5], iv x6] : Value)) e0 e1 e2 e3 e4 e5 e6)).trans (by kernel_rfl)) (fun _ _ => trivial)

set_option maxRecDepth 10000 in
theorem div_ct (a0 a1 a2 a3 a4 a5 b0 b1 b2 b3 b4 b5 : Int) :
    Cp Try.prog 11 #[.agg #[iv a0, iv a1, iv a2, iv a3, iv a4, iv a5], .agg #[iv b0, iv b1, iv b2, iv b3, iv b4, iv b5]] [] (.tuple #[.agg #[iv (Dm.opV (Dm.Rt [a0, a1, a2, a3, a4, a5] ∧ Dm.Rt [b0, b1, b2, b3, b4, b5]) [a0 - b0, a1 - b1, a2 - b2, a3 - b3, a4 - b4, a5 - b5] 0), iv (Dm.opV (Dm.Rt [a0, a1, a2, a3, a4, a5] ∧ Dm.Rt [b0, b1, b2, b3, b4, b5]) [a0 - b0, a1 - b1, a2 - b2, a3 - b3, a4 - b4, a5 - b5] 1), iv (Dm.opV (Dm.Rt [a0, a1, a2, a3, a4, a5] ∧ Dm.Rt [b0, b1, b2, b3, b4, b5]) [a0 - b0, a1 - b1, a2 - b2, a3 - b3, a4 - b4, a5 - b5] 2), iv (Dm.opV (Dm.Rt [a0, a1, a2, a3, a4, a5] ∧ Dm.Rt [b0, b1, b2, b3, b4, b5]) [a0 - b0, a1 - b1, a2 - b2, a3 - b3, a4 - b4, a5 - b5] 3), iv (Dm.opV (Dm.Rt [a0, a1, a2, a3, a4, a5] ∧ Dm.Rt [b0, b1, b2, b3, b4, b5]) [a0 - b0, a1 - b1, a2 - b2, a3 - b3, a4 - b4, a5 - b5] 4), iv (Dm.opV (Dm.Rt [a0, a1, a2, a3, a4, a5] ∧ Dm.Rt [b0, b1, b2, b3, b4, b5]) [a0 - b0, a1 - b1, a2 - b2, a3 - b3, a4 - b4, a5 - b5] 5)], iv (Dm.opE (Dm.Rt [a0, a1, a2, a3, a4, a5] ∧ Dm.Rt [b0, b1, b2, b3, b4, b5]) [a0 - b0, a1 - b1, a2 - b2, a3 - b3, a4 - b4, a5 - b5])]) := by
  refine V.fn mo Try.func11 19 3 (by kernel_rfl) fun w H ε k0 => ?_
  clear k0
  refine V.go [.nb 0 0 (fun b => pp b 0) 23 (fun _ => #[iv a0, iv a1, iv a2, iv a3, iv a4, iv a5]),
    .nb 1 1 (fun b => pp b 0) 23 (fun _ => #[iv b0, iv b1, iv b2, iv b3, iv b4, iv b5]),
    .nb 2 2 (fun b => pp b 0) 23 (fun _ => #[iv 0, iv 0, iv 0, iv 0, iv 0, iv 0]),
    .k (iv 0)] (fun _ _ => by kernel_rfl) fun _ _ G1 => ?_
  intro S1 t1
  refine nm ((!(decide (Dm.Rt [a0, a1, a2, a3, a4, a5]))) || (!(decide (Dm.Rt [b0, b1, b2, b3, b4, b5]))) : Bool) fun p1 hp1 => ?_
  refine V.go [.ld 0 0 true (fun _ => [iv a0, iv a1, iv a2, iv a3, iv a4, iv a5]),
    .cp g0 1 9 [] (fun _ G => right_ct a0 a1 a2 a3 a4 a5),
    .k (bv (!(decide (Dm.Rt [a0, a1, a2, a3, a4, a5])))),
    .k (bv (!(decide (Dm.Rt [a0, a1, a2, a3, a4, a5])))),
    .ld 1 0 true (fun _ => [iv b0, iv b1, iv b2, iv b3, iv b4, iv b5]),
    .cp (gF (b := !(decide (Dm.Rt [a0, a1, a2, a3, a4, a5]))) (iNF iDT)) 5 9 [] (fun hg G => right_ct b0 b1 b2 b3 b4 b5),
    .k (bv (!(decide (Dm.Rt [b0, b1, b2, b3, b4, b5])))),
    .orn g0 false (!(decide (Dm.Rt [a0, a1, a2, a3, a4, a5]))) (!(decide (Dm.Rt [b0, b1, b2, b3, b4, b5]))) p1 hp1] (fun _ _ => by kernel_rfl) fun _ _ G2 => ?_
  intro S2 t2
  refine V.cond (b := p1) (iN hp1 (iOT (iNT iDF) (iNT iDF))) (iN hp1 (iOF (iNF iDT) (iNF iDT))) (by kernel_rfl) (fun q1 => ?_) (fun q2 => ?_)
  · skip
    have hN : ¬ (Dm.Rt [a0, a1, a2, a3, a4, a5] ∧ Dm.Rt [b0, b1, b2, b3, b4, b5]) := by rintro ⟨h1, h2⟩; rcases q1 with h | h; exact h h1; exact h h2
    refine V.go [.k (.agg #[iv 0, iv 0, iv 0, iv 0, iv 0, iv 0]),
      .st 2 (fun _ => .blk ((G1 2).b) #[iv 0, iv 0, iv 0, iv 0, iv 0, iv 0] 23),
      .k (iv 1)] (fun _ _ => by kernel_rfl) fun _ _ G3 => ?_
    intro S3 t3
    have e0 : (0 : Int) = Dm.opV (Dm.Rt [a0, a1, a2, a3, a4, a5] ∧ Dm.Rt [b0, b1, b2, b3, b4, b5]) [a0 - b0, a1 - b1, a2 - b2, a3 - b3, a4 - b4, a5 - b5] 0 := by
      exact (Dm.opV_n hN _ 0).symm
    have e1 : (0 : Int) = Dm.opV (Dm.Rt [a0, a1, a2, a3, a4, a5] ∧ Dm.Rt [b0, b1, b2, b3, b4, b5]) [a0 - b0, a1 - b1, a2 - b2, a3 - b3, a4 - b4, a5 - b5] 1 := by
      exact (Dm.opV_n hN _ 1).symm
    have e2 : (0 : Int) = Dm.opV (Dm.Rt [a0, a1, a2, a3, a4, a5] ∧ Dm.Rt [b0, b1, b2, b3, b4, b5]) [a0 - b0, a1 - b1, a2 - b2, a3 - b3, a4 - b4, a5 - b5] 2 := by
      exact (Dm.opV_n hN _ 2).symm
    have e3 : (0 : Int) = Dm.opV (Dm.Rt [a0, a1, a2, a3, a4, a5] ∧ Dm.Rt [b0, b1, b2, b3, b4, b5]) [a0 - b0, a1 - b1, a2 - b2, a3 - b3, a4 - b4, a5 - b5] 3 := by
      exact (Dm.opV_n hN _ 3).symm
    have e4 : (0 : Int) = Dm.opV (Dm.Rt [a0, a1, a2, a3, a4, a5] ∧ Dm.Rt [b0, b1, b2, b3, b4, b5]) [a0 - b0, a1 - b1, a2 - b2, a3 - b3, a4 - b4, a5 - b5] 4 := by
      exact (Dm.opV_n hN _ 4).symm
    have e5 : (0 : Int) = Dm.opV (Dm.Rt [a0, a1, a2, a3, a4, a5] ∧ Dm.Rt [b0, b1, b2, b3, b4, b5]) [a0 - b0, a1 - b1, a2 - b2, a3 - b3, a4 - b4, a5 - b5] 5 := by
      exact (Dm.opV_n hN _ 5).symm
    have e6 : (1 : Int) = Dm.opE (Dm.Rt [a0, a1, a2, a3, a4, a5] ∧ Dm.Rt [b0, b1, b2, b3, b4, b5]) [a0 - b0, a1 - b1, a2 - b2, a3 - b3, a4 - b4, a5 - b5] := by
      exact (Dm.opE_n hN _).symm
    exact V.ret [2, 0] [] [] [] [] [] (.tuple #[.agg #[iv 0, iv 0, iv 0, iv 0, iv 0, iv 0], iv 1]) (fun _ _ => by kernel_rfl) (fun _ _ => (Eq.trans (by kernel_rfl) (cong7 (fun (x0 : Int) (x1 : Int) (x2 : Int) (x3 : Int) (x4 : Int) (x5 : Int) (x6 : Int) => (.tuple #[.agg #[iv x0, iv x1, iv x2, iv x3, iv x4, iv x5], iv x6] : Value)) e0 e1 e2 e3 e4 e5 e6)).trans (by kernel_rfl)) (fun _ _ => trivial)
  · skip
    have hY : (Dm.Rt [a0, a1, a2, a3, a4, a5] ∧ Dm.Rt [b0, b1, b2, b3, b4, b5]) := q2
    obtain ⟨ha, hb2⟩ := hY
    have hY : (Dm.Rt [a0, a1, a2, a3, a4, a5] ∧ Dm.Rt [b0, b1, b2, b3, b4, b5]) := ⟨ha, hb2⟩
    refine V.go [.k (.func (.func 20) #[] #[pp ((G1 0).b) 0, pp ((G1 1).b) 0]),
      .ct g0 1 18 false [0, 1] [] [] (fun _ G => maded_ct ((G1 0).b) a0 a1 a2 a3 a4 a5 ((G1 1).b) b0 b1 b2 b3 b4 b5 (by assumption) (by assumption)),
      .k (.agg #[iv (Dm.mk [a0 - b0, a1 - b1, a2 - b2, a3 - b3, a4 - b4, a5 - b5] 0), iv (Dm.mk [a0 - b0, a1 - b1, a2 - b2, a3 - b3, a4 - b4, a5 - b5] 1), iv (Dm.mk [a0 - b0, a1 - b1, a2 - b2, a3 - b3, a4 - b4, a5 - b5] 2), iv (Dm.mk [a0 - b0, a1 - b1, a2 - b2, a3 - b3, a4 - b4, a5 - b5] 3), iv (Dm.mk [a0 - b0, a1 - b1, a2 - b2, a3 - b3, a4 - b4, a5 - b5] 4), iv (Dm.mk [a0 - b0, a1 - b1, a2 - b2, a3 - b3, a4 - b4, a5 - b5] 5)]),
      .k (iv (Dm.mkE [a0 - b0, a1 - b1, a2 - b2, a3 - b3, a4 - b4, a5 - b5])),
      .st 2 (fun _ => .blk ((G1 2).b) #[iv (Dm.mk [a0 - b0, a1 - b1, a2 - b2, a3 - b3, a4 - b4, a5 - b5] 0), iv (Dm.mk [a0 - b0, a1 - b1, a2 - b2, a3 - b3, a4 - b4, a5 - b5] 1), iv (Dm.mk [a0 - b0, a1 - b1, a2 - b2, a3 - b3, a4 - b4, a5 - b5] 2), iv (Dm.mk [a0 - b0, a1 - b1, a2 - b2, a3 - b3, a4 - b4, a5 - b5] 3), iv (Dm.mk [a0 - b0, a1 - b1, a2 - b2, a3 - b3, a4 - b4, a5 - b5] 4), iv (Dm.mk [a0 - b0, a1 - b1, a2 - b2, a3 - b3, a4 - b4, a5 - b5] 5)] 23),
      .k (iv (Dm.mkE [a0 - b0, a1 - b1, a2 - b2, a3 - b3, a4 - b4, a5 - b5]))] (fun _ _ => by kernel_rfl) fun _ _ G4 => ?_
    intro S4 t4
    have e0 : (Dm.mk [a0 - b0, a1 - b1, a2 - b2, a3 - b3, a4 - b4, a5 - b5] 0) = Dm.opV (Dm.Rt [a0, a1, a2, a3, a4, a5] ∧ Dm.Rt [b0, b1, b2, b3, b4, b5]) [a0 - b0, a1 - b1, a2 - b2, a3 - b3, a4 - b4, a5 - b5] 0 := by
      exact (Dm.opV_y hY _ 0).symm
    have e1 : (Dm.mk [a0 - b0, a1 - b1, a2 - b2, a3 - b3, a4 - b4, a5 - b5] 1) = Dm.opV (Dm.Rt [a0, a1, a2, a3, a4, a5] ∧ Dm.Rt [b0, b1, b2, b3, b4, b5]) [a0 - b0, a1 - b1, a2 - b2, a3 - b3, a4 - b4, a5 - b5] 1 := by
      exact (Dm.opV_y hY _ 1).symm
    have e2 : (Dm.mk [a0 - b0, a1 - b1, a2 - b2, a3 - b3, a4 - b4, a5 - b5] 2) = Dm.opV (Dm.Rt [a0, a1, a2, a3, a4, a5] ∧ Dm.Rt [b0, b1, b2, b3, b4, b5]) [a0 - b0, a1 - b1, a2 - b2, a3 - b3, a4 - b4, a5 - b5] 2 := by
      exact (Dm.opV_y hY _ 2).symm
    have e3 : (Dm.mk [a0 - b0, a1 - b1, a2 - b2, a3 - b3, a4 - b4, a5 - b5] 3) = Dm.opV (Dm.Rt [a0, a1, a2, a3, a4, a5] ∧ Dm.Rt [b0, b1, b2, b3, b4, b5]) [a0 - b0, a1 - b1, a2 - b2, a3 - b3, a4 - b4, a5 - b5] 3 := by
      exact (Dm.opV_y hY _ 3).symm
    have e4 : (Dm.mk [a0 - b0, a1 - b1, a2 - b2, a3 - b3, a4 - b4, a5 - b5] 4) = Dm.opV (Dm.Rt [a0, a1, a2, a3, a4, a5] ∧ Dm.Rt [b0, b1, b2, b3, b4, b5]) [a0 - b0, a1 - b1, a2 - b2, a3 - b3, a4 - b4, a5 - b5] 4 := by
      exact (Dm.opV_y hY _ 4).symm
    have e5 : (Dm.mk [a0 - b0, a1 - b1, a2 - b2, a3 - b3, a4 - b4, a5 - b5] 5) = Dm.opV (Dm.Rt [a0, a1, a2, a3, a4, a5] ∧ Dm.Rt [b0, b1, b2, b3, b4, b5]) [a0 - b0, a1 - b1, a2 - b2, a3 - b3, a4 - b4, a5 - b5] 5 := by
      exact (Dm.opV_y hY _ 5).symm
    have e6 : (Dm.mkE [a0 - b0, a1 - b1, a2 - b2, a3 - b3, a4 - b4, a5 - b5]) = Dm.opE (Dm.Rt [a0, a1, a2, a3, a4, a5] ∧ Dm.Rt [b0, b1, b2, b3, b4, b5]) [a0 - b0, a1 - b1, a2 - b2, a3 - b3, a4 - b4, a5 - b5] := by
      exact (Dm.opE_y hY _).symm
    exact V.ret [2, 0] [] [] [] [] [] (.tuple #[.agg #[iv (Dm.mk [a0 - b0, a1 - b1, a2 - b2, a3 - b3, a4 - b4, a5 - b5] 0), iv (Dm.mk [a0 - b0, a1 - b1, a2 - b2, a3 - b3, a4 - b4, a5 - b5] 1), iv (Dm.mk [a0 - b0, a1 - b1, a2 - b2, a3 - b3, a4 - b4, a5 - b5] 2), iv (Dm.mk [a0 - b0, a1 - b1, a2 - b2, a3 - b3, a4 - b4, a5 - b5] 3), iv (Dm.mk [a0 - b0, a1 - b1, a2 - b2, a3 - b3, a4 - b4, a5 - b5] 4), iv (Dm.mk [a0 - b0, a1 - b1, a2 - b2, a3 - b3, a4 - b4, a5 - b5] 5)], iv (Dm.mkE [a0 - b0, a1 - b1, a2 - b2, a3 - b3, a4 - b4, a5 - b5])]) (fun _ _ => by kernel_rfl) (fun _ _ => (Eq.trans (by kernel_rfl) (cong7 (fun (x0 : Int) (x1 : Int) (x2 : Int) (x3 : Int) (x4 : Int) (x5 : Int) (x6 : Int) => (.tuple #[.agg #[iv x0, iv x1, iv x2, iv x3, iv x4, iv x5], iv x6] : Value)) e0 e1 e2 e3 e4 e5 e6)).trans (by kernel_rfl)) (fun _ _ => trivial)

set_option maxRecDepth 10000 in
theorem pow_ct (d0 d1 d2 d3 d4 d5 n : Int) :
    Cp Try.prog 12 #[.agg #[iv d0, iv d1, iv d2, iv d3, iv d4, iv d5], iv n] [] (.tuple #[.agg #[iv (Dm.opV (Dm.Rt [d0, d1, d2, d3, d4, d5]) [d0 * n, d1 * n, d2 * n, d3 * n, d4 * n, d5 * n] 0), iv (Dm.opV (Dm.Rt [d0, d1, d2, d3, d4, d5]) [d0 * n, d1 * n, d2 * n, d3 * n, d4 * n, d5 * n] 1), iv (Dm.opV (Dm.Rt [d0, d1, d2, d3, d4, d5]) [d0 * n, d1 * n, d2 * n, d3 * n, d4 * n, d5 * n] 2), iv (Dm.opV (Dm.Rt [d0, d1, d2, d3, d4, d5]) [d0 * n, d1 * n, d2 * n, d3 * n, d4 * n, d5 * n] 3), iv (Dm.opV (Dm.Rt [d0, d1, d2, d3, d4, d5]) [d0 * n, d1 * n, d2 * n, d3 * n, d4 * n, d5 * n] 4), iv (Dm.opV (Dm.Rt [d0, d1, d2, d3, d4, d5]) [d0 * n, d1 * n, d2 * n, d3 * n, d4 * n, d5 * n] 5)], iv (Dm.opE (Dm.Rt [d0, d1, d2, d3, d4, d5]) [d0 * n, d1 * n, d2 * n, d3 * n, d4 * n, d5 * n])]) := by
  refine V.fn mo Try.func12 21 3 (by kernel_rfl) fun w H ε k0 => ?_
  clear k0
  refine V.go [.nb 0 0 (fun b => pp b 0) 23 (fun _ => #[iv d0, iv d1, iv d2, iv d3, iv d4, iv d5]),
    .nb 1 1 (fun b => pp b 0) 3 (fun _ => #[iv n]),
    .nb 2 2 (fun b => pp b 0) 23 (fun _ => #[iv 0, iv 0, iv 0, iv 0, iv 0, iv 0]),
    .k (iv 0)] (fun _ _ => by kernel_rfl) fun _ _ G1 => ?_
  intro S1 t1
  refine V.go [.ld 0 0 true (fun _ => [iv d0, iv d1, iv d2, iv d3, iv d4, iv d5]),
    .cp g0 1 9 [] (fun _ G => right_ct d0 d1 d2 d3 d4 d5),
    .k (bv (!(decide (Dm.Rt [d0, d1, d2, d3, d4, d5]))))] (fun _ _ => by kernel_rfl) fun _ _ G2 => ?_
  intro S2 t2
  refine V.cond (b := !(decide (Dm.Rt [d0, d1, d2, d3, d4, d5]))) (iNT iDF) (iNF iDT) (by kernel_rfl) (fun q1 => ?_) (fun q2 => ?_)
  · skip
    refine V.go [.k (.agg #[iv 0, iv 0, iv 0, iv 0, iv 0, iv 0]),
      .st 2 (fun _ => .blk ((G1 2).b) #[iv 0, iv 0, iv 0, iv 0, iv 0, iv 0] 23),
      .k (iv 1)] (fun _ _ => by kernel_rfl) fun _ _ G3 => ?_
    intro S3 t3
    have e0 : (0 : Int) = Dm.opV (Dm.Rt [d0, d1, d2, d3, d4, d5]) [d0 * n, d1 * n, d2 * n, d3 * n, d4 * n, d5 * n] 0 := by
      exact (Dm.opV_n q1 _ 0).symm
    have e1 : (0 : Int) = Dm.opV (Dm.Rt [d0, d1, d2, d3, d4, d5]) [d0 * n, d1 * n, d2 * n, d3 * n, d4 * n, d5 * n] 1 := by
      exact (Dm.opV_n q1 _ 1).symm
    have e2 : (0 : Int) = Dm.opV (Dm.Rt [d0, d1, d2, d3, d4, d5]) [d0 * n, d1 * n, d2 * n, d3 * n, d4 * n, d5 * n] 2 := by
      exact (Dm.opV_n q1 _ 2).symm
    have e3 : (0 : Int) = Dm.opV (Dm.Rt [d0, d1, d2, d3, d4, d5]) [d0 * n, d1 * n, d2 * n, d3 * n, d4 * n, d5 * n] 3 := by
      exact (Dm.opV_n q1 _ 3).symm
    have e4 : (0 : Int) = Dm.opV (Dm.Rt [d0, d1, d2, d3, d4, d5]) [d0 * n, d1 * n, d2 * n, d3 * n, d4 * n, d5 * n] 4 := by
      exact (Dm.opV_n q1 _ 4).symm
    have e5 : (0 : Int) = Dm.opV (Dm.Rt [d0, d1, d2, d3, d4, d5]) [d0 * n, d1 * n, d2 * n, d3 * n, d4 * n, d5 * n] 5 := by
      exact (Dm.opV_n q1 _ 5).symm
    have e6 : (1 : Int) = Dm.opE (Dm.Rt [d0, d1, d2, d3, d4, d5]) [d0 * n, d1 * n, d2 * n, d3 * n, d4 * n, d5 * n] := by
      exact (Dm.opE_n q1 _).symm
    exact V.ret [2, 0] [] [] [] [] [] (.tuple #[.agg #[iv 0, iv 0, iv 0, iv 0, iv 0, iv 0], iv 1]) (fun _ _ => by kernel_rfl) (fun _ _ => (Eq.trans (by kernel_rfl) (cong7 (fun (x0 : Int) (x1 : Int) (x2 : Int) (x3 : Int) (x4 : Int) (x5 : Int) (x6 : Int) => (.tuple #[.agg #[iv x0, iv x1, iv x2, iv x3, iv x4, iv x5], iv x6] : Value)) e0 e1 e2 e3 e4 e5 e6)).trans (by kernel_rfl)) (fun _ _ => trivial)
  · skip
    have hR : Dm.Rt [d0, d1, d2, d3, d4, d5] := by first | exact q2 | exact Decidable.not_not.1 q2
    refine V.go [.ld 0 0 true (fun _ => [iv d0, iv d1, iv d2, iv d3, iv d4, iv d5]),
      .k (.agg #[iv 0, iv 0, iv 0, iv 0, iv 0, iv 0]),
      .aeq false 23 #[iv d0, iv d1, iv d2, iv d3, iv d4, iv d5] #[iv 0, iv 0, iv 0, iv 0, iv 0, iv 0] _ fun w => dim_equal w d0 d1 d2 d3 d4 d5 0 0 0 0 0 0] (fun _ _ => by kernel_rfl) fun _ _ G4 => ?_
    intro S4 t4
    refine V.cond (b := decide (d0 = 0 ∧ d1 = 0 ∧ d2 = 0 ∧ d3 = 0 ∧ d4 = 0 ∧ d5 = 0)) iDT iDF (by kernel_rfl) (fun q3 => ?_) (fun q4 => ?_)
    · skip
      have hL : [d0 * n, d1 * n, d2 * n, d3 * n, d4 * n, d5 * n] = [0, 0, 0, 0, 0, 0] := by obtain ⟨h0, h1, h2, h3, h4, h5⟩ := q3; rw [h0, h1, h2, h3, h4, h5]; simp
      refine V.go [.k (.agg #[iv 0, iv 0, iv 0, iv 0, iv 0, iv 0]),
        .st 2 (fun _ => .blk ((G1 2).b) #[iv 0, iv 0, iv 0, iv 0, iv 0, iv 0] 23),
        .k (iv 0)] (fun _ _ => by kernel_rfl) fun _ _ G5 => ?_
      intro S5 t5
      have e0 : (0 : Int) = Dm.opV (Dm.Rt [d0, d1, d2, d3, d4, d5]) [d0 * n, d1 * n, d2 * n, d3 * n, d4 * n, d5 * n] 0 := by
        rw [Dm.opV_y hR, hL]; rfl
      have e1 : (0 : Int) = Dm.opV (Dm.Rt [d0, d1, d2, d3, d4, d5]) [d0 * n, d1 * n, d2 * n, d3 * n, d4 * n, d5 * n] 1 := by
        rw [Dm.opV_y hR, hL]; rfl
      have e2 : (0 : Int) = Dm.opV (Dm.Rt [d0, d1, d2, d3, d4, d5]) [d0 * n, d1 * n, d2 * n, d3 * n, d4 * n, d5 * n] 2 := by
        rw [Dm.opV_y hR, hL]; rfl
      have e3 : (0 : Int) = Dm.opV (Dm.Rt [d0, d1, d2, d3, d4, d5]) [d0 * n, d1 * n, d2 * n, d3 * n, d4 * n, d5 * n] 3 := by
        rw [Dm.opV_y hR, hL]; rfl
      have e4 : (0 : Int) = Dm.opV (Dm.Rt [d0, d1, d2, d3, d4, d5]) [d0 * n, d1 * n, d2 * n, d3 * n, d4 * n, d5 * n] 4 := by
        rw [Dm.opV_y hR, hL]; rfl
      have e5 : (0 : Int) = Dm.opV (Dm.Rt [d0, d1, d2, d3, d4, d5]) [d0 * n, d1 * n, d2 * n, d3 * n, d4 * n, d5 * n] 5 := by
        rw [Dm.opV_y hR, hL]; rfl
      have e6 : (0 : Int) = Dm.opE (Dm.Rt [d0, d1, d2, d3, d4, d5]) [d0 * n, d1 * n, d2 * n, d3 * n, d4 * n, d5 * n] := by
        rw [Dm.opE_y hR, hL]; rfl
      exact V.ret [2, 0] [] [] [] [] [] (.tuple #[.agg #[iv 0, iv 0, iv 0, iv 0, iv 0, iv 0], iv 0]) (fun _ _ => by kernel_rfl) (fun _ _ => (Eq.trans (by kernel_rfl) (cong7 (fun (x0 : Int) (x1 : Int) (x2 : Int) (x3 : Int) (x4 : Int) (x5 : Int) (x6 : Int) => (.tuple #[.agg #[iv x0, iv x1, iv x2, iv x3, iv x4, iv x5], iv x6] : Value)) e0 e1 e2 e3 e4 e5 e6)).trans (by kernel_rfl)) (fun _ _ => trivial)
    · skip
      obtain ⟨hc1, hc2⟩ := Dm.clamp (n := n) hR q4 rfl
      have hE : Dm.mkE [d0 * max (-10) (min n 10), d1 * max (-10) (min n 10), d2 * max (-10) (min n 10), d3 * max (-10) (min n 10), d4 * max (-10) (min n 10), d5 * max (-10) (min n 10)] = Dm.mkE [d0 * n, d1 * n, d2 * n, d3 * n, d4 * n, d5 * n] := by unfold Dm.mkE; simp only [hc1]
      have hV : ∀ i, Dm.mk [d0 * max (-10) (min n 10), d1 * max (-10) (min n 10), d2 * max (-10) (min n 10), d3 * max (-10) (min n 10), d4 * max (-10) (min n 10), d5 * max (-10) (min n 10)] i = Dm.mk [d0 * n, d1 * n, d2 * n, d3 * n, d4 * n, d5 * n] i := fun i => by
        by_cases h : Dm.Rt [d0 * n, d1 * n, d2 * n, d3 * n, d4 * n, d5 * n]
        · rw [Dm.mk_y h, Dm.mk_y (hc1.2 h), hc2 h]
        · rw [Dm.mk_n h, Dm.mk_n fun h2 => h (hc1.1 h2)]
      refine V.go [.ld 1 0 false (fun _ => [iv n]),
        .mn n 10,
        .mx (-10) (min n 10),
        .st 1 (fun _ => .blk ((G1 1).b) #[iv (max (-10) (min n 10))] 3)] (fun _ _ => by kernel_rfl) fun _ _ G6 => ?_
      intro S6 t6
      refine V.go [.k (.func (.func 21) #[] #[pp ((G1 0).b) 0, pp ((G1 1).b) 0]),
        .ct g0 1 18 false [0, 1] [] [] (fun _ G => madep_ct ((G1 0).b) d0 d1 d2 d3 d4 d5 ((G1 1).b) (max (-10) (min n 10)) hR (by omega)),
        .k (.agg #[iv (Dm.mk [d0 * (max (-10) (min n 10)), d1 * (max (-10) (min n 10)), d2 * (max (-10) (min n 10)), d3 * (max (-10) (min n 10)), d4 * (max (-10) (min n 10)), d5 * (max (-10) (min n 10))] 0), iv (Dm.mk [d0 * (max (-10) (min n 10)), d1 * (max (-10) (min n 10)), d2 * (max (-10) (min n 10)), d3 * (max (-10) (min n 10)), d4 * (max (-10) (min n 10)), d5 * (max (-10) (min n 10))] 1), iv (Dm.mk [d0 * (max (-10) (min n 10)), d1 * (max (-10) (min n 10)), d2 * (max (-10) (min n 10)), d3 * (max (-10) (min n 10)), d4 * (max (-10) (min n 10)), d5 * (max (-10) (min n 10))] 2), iv (Dm.mk [d0 * (max (-10) (min n 10)), d1 * (max (-10) (min n 10)), d2 * (max (-10) (min n 10)), d3 * (max (-10) (min n 10)), d4 * (max (-10) (min n 10)), d5 * (max (-10) (min n 10))] 3), iv (Dm.mk [d0 * (max (-10) (min n 10)), d1 * (max (-10) (min n 10)), d2 * (max (-10) (min n 10)), d3 * (max (-10) (min n 10)), d4 * (max (-10) (min n 10)), d5 * (max (-10) (min n 10))] 4), iv (Dm.mk [d0 * (max (-10) (min n 10)), d1 * (max (-10) (min n 10)), d2 * (max (-10) (min n 10)), d3 * (max (-10) (min n 10)), d4 * (max (-10) (min n 10)), d5 * (max (-10) (min n 10))] 5)]),
        .k (iv (Dm.mkE [d0 * (max (-10) (min n 10)), d1 * (max (-10) (min n 10)), d2 * (max (-10) (min n 10)), d3 * (max (-10) (min n 10)), d4 * (max (-10) (min n 10)), d5 * (max (-10) (min n 10))])),
        .st 2 (fun _ => .blk ((G1 2).b) #[iv (Dm.mk [d0 * (max (-10) (min n 10)), d1 * (max (-10) (min n 10)), d2 * (max (-10) (min n 10)), d3 * (max (-10) (min n 10)), d4 * (max (-10) (min n 10)), d5 * (max (-10) (min n 10))] 0), iv (Dm.mk [d0 * (max (-10) (min n 10)), d1 * (max (-10) (min n 10)), d2 * (max (-10) (min n 10)), d3 * (max (-10) (min n 10)), d4 * (max (-10) (min n 10)), d5 * (max (-10) (min n 10))] 1), iv (Dm.mk [d0 * (max (-10) (min n 10)), d1 * (max (-10) (min n 10)), d2 * (max (-10) (min n 10)), d3 * (max (-10) (min n 10)), d4 * (max (-10) (min n 10)), d5 * (max (-10) (min n 10))] 2), iv (Dm.mk [d0 * (max (-10) (min n 10)), d1 * (max (-10) (min n 10)), d2 * (max (-10) (min n 10)), d3 * (max (-10) (min n 10)), d4 * (max (-10) (min n 10)), d5 * (max (-10) (min n 10))] 3), iv (Dm.mk [d0 * (max (-10) (min n 10)), d1 * (max (-10) (min n 10)), d2 * (max (-10) (min n 10)), d3 * (max (-10) (min n 10)), d4 * (max (-10) (min n 10)), d5 * (max (-10) (min n 10))] 4), iv (Dm.mk [d0 * (max (-10) (min n 10)), d1 * (max (-10) (min n 10)), d2 * (max (-10) (min n 10)), d3 * (max (-10) (min n 10)), d4 * (max (-10) (min n 10)), d5 * (max (-10) (min n 10))] 5)] 23),
        .k (iv (Dm.mkE [d0 * (max (-10) (min n 10)), d1 * (max (-10) (min n 10)), d2 * (max (-10) (min n 10)), d3 * (max (-10) (min n 10)), d4 * (max (-10) (min n 10)), d5 * (max (-10) (min n 10))]))] (fun _ _ => by kernel_rfl) fun _ _ G7 => ?_
      intro S7 t7
      have e0 : (Dm.mk [d0 * (max (-10) (min n 10)), d1 * (max (-10) (min n 10)), d2 * (max (-10) (min n 10)), d3 * (max (-10) (min n 10)), d4 * (max (-10) (min n 10)), d5 * (max (-10) (min n 10))] 0) = Dm.opV (Dm.Rt [d0, d1, d2, d3, d4, d5]) [d0 * n, d1 * n, d2 * n, d3 * n, d4 * n, d5 * n] 0 := by
        rw [Dm.opV_y hR]; exact hV 0
      have e1 : (Dm.mk [d0 * (max (-10) (min n 10)), d1 * (max (-10) (min n 10)), d2 * (max (-10) (min n 10)), d3 * (max (-10) (min n 10)), d4 * (max (-10) (min n 10)), d5 * (max (-10) (min n 10))] 1) = Dm.opV (Dm.Rt [d0, d1, d2, d3, d4, d5]) [d0 * n, d1 * n, d2 * n, d3 * n, d4 * n, d5 * n] 1 := by
        rw [Dm.opV_y hR]; exact hV 1
      have e2 : (Dm.mk [d0 * (max (-10) (min n 10)), d1 * (max (-10) (min n 10)), d2 * (max (-10) (min n 10)), d3 * (max (-10) (min n 10)), d4 * (max (-10) (min n 10)), d5 * (max (-10) (min n 10))] 2) = Dm.opV (Dm.Rt [d0, d1, d2, d3, d4, d5]) [d0 * n, d1 * n, d2 * n, d3 * n, d4 * n, d5 * n] 2 := by
        rw [Dm.opV_y hR]; exact hV 2
      have e3 : (Dm.mk [d0 * (max (-10) (min n 10)), d1 * (max (-10) (min n 10)), d2 * (max (-10) (min n 10)), d3 * (max (-10) (min n 10)), d4 * (max (-10) (min n 10)), d5 * (max (-10) (min n 10))] 3) = Dm.opV (Dm.Rt [d0, d1, d2, d3, d4, d5]) [d0 * n, d1 * n, d2 * n, d3 * n, d4 * n, d5 * n] 3 := by
        rw [Dm.opV_y hR]; exact hV 3
      have e4 : (Dm.mk [d0 * (max (-10) (min n 10)), d1 * (max (-10) (min n 10)), d2 * (max (-10) (min n 10)), d3 * (max (-10) (min n 10)), d4 * (max (-10) (min n 10)), d5 * (max (-10) (min n 10))] 4) = Dm.opV (Dm.Rt [d0, d1, d2, d3, d4, d5]) [d0 * n, d1 * n, d2 * n, d3 * n, d4 * n, d5 * n] 4 := by
        rw [Dm.opV_y hR]; exact hV 4
      have e5 : (Dm.mk [d0 * (max (-10) (min n 10)), d1 * (max (-10) (min n 10)), d2 * (max (-10) (min n 10)), d3 * (max (-10) (min n 10)), d4 * (max (-10) (min n 10)), d5 * (max (-10) (min n 10))] 5) = Dm.opV (Dm.Rt [d0, d1, d2, d3, d4, d5]) [d0 * n, d1 * n, d2 * n, d3 * n, d4 * n, d5 * n] 5 := by
        rw [Dm.opV_y hR]; exact hV 5
      have e6 : (Dm.mkE [d0 * (max (-10) (min n 10)), d1 * (max (-10) (min n 10)), d2 * (max (-10) (min n 10)), d3 * (max (-10) (min n 10)), d4 * (max (-10) (min n 10)), d5 * (max (-10) (min n 10))]) = Dm.opE (Dm.Rt [d0, d1, d2, d3, d4, d5]) [d0 * n, d1 * n, d2 * n, d3 * n, d4 * n, d5 * n] := by
        rw [Dm.opE_y hR]; exact hE
      exact V.ret [2, 0] [] [] [] [] [] (.tuple #[.agg #[iv (Dm.mk [d0 * (max (-10) (min n 10)), d1 * (max (-10) (min n 10)), d2 * (max (-10) (min n 10)), d3 * (max (-10) (min n 10)), d4 * (max (-10) (min n 10)), d5 * (max (-10) (min n 10))] 0), iv (Dm.mk [d0 * (max (-10) (min n 10)), d1 * (max (-10) (min n 10)), d2 * (max (-10) (min n 10)), d3 * (max (-10) (min n 10)), d4 * (max (-10) (min n 10)), d5 * (max (-10) (min n 10))] 1), iv (Dm.mk [d0 * (max (-10) (min n 10)), d1 * (max (-10) (min n 10)), d2 * (max (-10) (min n 10)), d3 * (max (-10) (min n 10)), d4 * (max (-10) (min n 10)), d5 * (max (-10) (min n 10))] 2), iv (Dm.mk [d0 * (max (-10) (min n 10)), d1 * (max (-10) (min n 10)), d2 * (max (-10) (min n 10)), d3 * (max (-10) (min n 10)), d4 * (max (-10) (min n 10)), d5 * (max (-10) (min n 10))] 3), iv (Dm.mk [d0 * (max (-10) (min n 10)), d1 * (max (-10) (min n 10)), d2 * (max (-10) (min n 10)), d3 * (max (-10) (min n 10)), d4 * (max (-10) (min n 10)), d5 * (max (-10) (min n 10))] 4), iv (Dm.mk [d0 * (max (-10) (min n 10)), d1 * (max (-10) (min n 10)), d2 * (max (-10) (min n 10)), d3 * (max (-10) (min n 10)), d4 * (max (-10) (min n 10)), d5 * (max (-10) (min n 10))] 5)], iv (Dm.mkE [d0 * (max (-10) (min n 10)), d1 * (max (-10) (min n 10)), d2 * (max (-10) (min n 10)), d3 * (max (-10) (min n 10)), d4 * (max (-10) (min n 10)), d5 * (max (-10) (min n 10))])]) (fun _ _ => by kernel_rfl) (fun _ _ => (Eq.trans (by kernel_rfl) (cong7 (fun (x0 : Int) (x1 : Int) (x2 : Int) (x3 : Int) (x4 : Int) (x5 : Int) (x6 : Int) => (.tuple #[.agg #[iv x0, iv x1, iv x2, iv x3, iv x4, iv x5], iv x6] : Value)) e0 e1 e2 e3 e4 e5 e6)).trans (by kernel_rfl)) (fun _ _ => trivial)

end Kb
