/- The law of the group. -/
import Derived.Test.YtmoekalfmahljaaVf
import Derived.Test.YtmoekalfmahljaaDn
set_option linter.unusedVariables false
set_option linter.unusedSectionVars false
set_option linter.unusedSimpArgs false
namespace Kb
open Go Go.Proofs
set_option maxRecDepth 10000 in
set_option maxHeartbeats 4000000 in
theorem group_ct (a0 a1 a2 a3 a4 a5 b0 b1 b2 b3 b4 b5 c0 c1 c2 c3 c4 c5 : Int) :
    Cp Try.prog 4 #[.agg #[iv a0, iv a1, iv a2, iv a3, iv a4, iv a5], .agg #[iv b0, iv b1, iv b2, iv b3, iv b4, iv b5], .agg #[iv c0, iv c1, iv c2, iv c3, iv c4, iv c5]] [] (bv true) := by
  refine V.fn mo Try.func4 149 11 (by kernel_rfl) fun w H ε k0 => ?_
  clear k0
  refine V.go [.nb 0 0 (fun b => pp b 0) 23 (fun _ => #[iv a0, iv a1, iv a2, iv a3, iv a4, iv a5]),
    .nb 1 1 (fun b => pp b 0) 23 (fun _ => #[iv b0, iv b1, iv b2, iv b3, iv b4, iv b5]),
    .nb 2 2 (fun b => pp b 0) 23 (fun _ => #[iv c0, iv c1, iv c2, iv c3, iv c4, iv c5]),
    .k (bv false)] (fun _ _ => by kernel_rfl) fun _ _ G1 => ?_
  intro S1 t1
  refine V.go [.cp g0 0 6 [] (fun _ G => sane_ct ),
    .k (bv true)] (fun _ _ => by kernel_rfl) fun _ _ G2 => ?_
  intro S2 t2
  refine nm (Dm.opV (Dm.Rt [a0, a1, a2, a3, a4, a5] ∧ Dm.Rt [b0, b1, b2, b3, b4, b5]) [a0 + b0, a1 + b1, a2 + b2, a3 + b3, a4 + b4, a5 + b5] 0 : Int) fun ab0 hab0 => ?_
  refine nm (Dm.opV (Dm.Rt [a0, a1, a2, a3, a4, a5] ∧ Dm.Rt [b0, b1, b2, b3, b4, b5]) [a0 + b0, a1 + b1, a2 + b2, a3 + b3, a4 + b4, a5 + b5] 1 : Int) fun ab1 hab1 => ?_
  refine nm (Dm.opV (Dm.Rt [a0, a1, a2, a3, a4, a5] ∧ Dm.Rt [b0, b1, b2, b3, b4, b5]) [a0 + b0, a1 + b1, a2 + b2, a3 + b3, a4 + b4, a5 + b5] 2 : Int) fun ab2 hab2 => ?_
  refine nm (Dm.opV (Dm.Rt [a0, a1, a2, a3, a4, a5] ∧ Dm.Rt [b0, b1, b2, b3, b4, b5]) [a0 + b0, a1 + b1, a2 + b2, a3 + b3, a4 + b4, a5 + b5] 3 : Int) fun ab3 hab3 => ?_
  refine nm (Dm.opV (Dm.Rt [a0, a1, a2, a3, a4, a5] ∧ Dm.Rt [b0, b1, b2, b3, b4, b5]) [a0 + b0, a1 + b1, a2 + b2, a3 + b3, a4 + b4, a5 + b5] 4 : Int) fun ab4 hab4 => ?_
  refine nm (Dm.opV (Dm.Rt [a0, a1, a2, a3, a4, a5] ∧ Dm.Rt [b0, b1, b2, b3, b4, b5]) [a0 + b0, a1 + b1, a2 + b2, a3 + b3, a4 + b4, a5 + b5] 5 : Int) fun ab5 hab5 => ?_
  refine nm (Dm.opE (Dm.Rt [a0, a1, a2, a3, a4, a5] ∧ Dm.Rt [b0, b1, b2, b3, b4, b5]) [a0 + b0, a1 + b1, a2 + b2, a3 + b3, a4 + b4, a5 + b5] : Int) fun abE habE => ?_
  refine V.go [.ld 0 0 true (fun _ => [iv a0, iv a1, iv a2, iv a3, iv a4, iv a5]),
    .ld 1 0 true (fun _ => [iv b0, iv b1, iv b2, iv b3, iv b4, iv b5]),
    .cp g0 2 10 [] (fun _ G => mul_ctv a0 a1 a2 a3 a4 a5 b0 b1 b2 b3 b4 b5 ab0 ab1 ab2 ab3 ab4 ab5 abE hab0.symm hab1.symm hab2.symm hab3.symm hab4.symm hab5.symm habE.symm),
    .k (.tuple #[.agg #[iv ab0, iv ab1, iv ab2, iv ab3, iv ab4, iv ab5], iv abE]),
    .k (.agg #[iv ab0, iv ab1, iv ab2, iv ab3, iv ab4, iv ab5]),
    .k (iv abE),
    .nb 6 3 (fun b => pp b 0) 23 (fun _ => #[iv 0, iv 0, iv 0, iv 0, iv 0, iv 0]),
    .st 3 (fun G => .blk ((G 6).b) #[iv ab0, iv ab1, iv ab2, iv ab3, iv ab4, iv ab5] 23),
    .k (iv abE)] (fun _ _ => by kernel_rfl) fun _ _ G3 => ?_
  intro S3 t3
  refine nm (Dm.opV (Dm.Rt [b0, b1, b2, b3, b4, b5] ∧ Dm.Rt [a0, a1, a2, a3, a4, a5]) [b0 + a0, b1 + a1, b2 + a2, b3 + a3, b4 + a4, b5 + a5] 0 : Int) fun ba0 hba0 => ?_
  refine nm (Dm.opV (Dm.Rt [b0, b1, b2, b3, b4, b5] ∧ Dm.Rt [a0, a1, a2, a3, a4, a5]) [b0 + a0, b1 + a1, b2 + a2, b3 + a3, b4 + a4, b5 + a5] 1 : Int) fun ba1 hba1 => ?_
  refine nm (Dm.opV (Dm.Rt [b0, b1, b2, b3, b4, b5] ∧ Dm.Rt [a0, a1, a2, a3, a4, a5]) [b0 + a0, b1 + a1, b2 + a2, b3 + a3, b4 + a4, b5 + a5] 2 : Int) fun ba2 hba2 => ?_
  refine nm (Dm.opV (Dm.Rt [b0, b1, b2, b3, b4, b5] ∧ Dm.Rt [a0, a1, a2, a3, a4, a5]) [b0 + a0, b1 + a1, b2 + a2, b3 + a3, b4 + a4, b5 + a5] 3 : Int) fun ba3 hba3 => ?_
  refine nm (Dm.opV (Dm.Rt [b0, b1, b2, b3, b4, b5] ∧ Dm.Rt [a0, a1, a2, a3, a4, a5]) [b0 + a0, b1 + a1, b2 + a2, b3 + a3, b4 + a4, b5 + a5] 4 : Int) fun ba4 hba4 => ?_
  refine nm (Dm.opV (Dm.Rt [b0, b1, b2, b3, b4, b5] ∧ Dm.Rt [a0, a1, a2, a3, a4, a5]) [b0 + a0, b1 + a1, b2 + a2, b3 + a3, b4 + a4, b5 + a5] 5 : Int) fun ba5 hba5 => ?_
  refine nm (Dm.opE (Dm.Rt [b0, b1, b2, b3, b4, b5] ∧ Dm.Rt [a0, a1, a2, a3, a4, a5]) [b0 + a0, b1 + a1, b2 + a2, b3 + a3, b4 + a4, b5 + a5] : Int) fun baE hbaE => ?_
  refine V.go [.ld 1 0 true (fun _ => [iv b0, iv b1, iv b2, iv b3, iv b4, iv b5]),
    .ld 0 0 true (fun _ => [iv a0, iv a1, iv a2, iv a3, iv a4, iv a5]),
    .cp g0 2 10 [] (fun _ G => mul_ctv b0 b1 b2 b3 b4 b5 a0 a1 a2 a3 a4 a5 ba0 ba1 ba2 ba3 ba4 ba5 baE hba0.symm hba1.symm hba2.symm hba3.symm hba4.symm hba5.symm hbaE.symm),
    .k (.tuple #[.agg #[iv ba0, iv ba1, iv ba2, iv ba3, iv ba4, iv ba5], iv baE]),
    .k (.agg #[iv ba0, iv ba1, iv ba2, iv ba3, iv ba4, iv ba5]),
    .k (iv baE),
    .nb 6 4 (fun b => pp b 0) 23 (fun _ => #[iv 0, iv 0, iv 0, iv 0, iv 0, iv 0]),
    .st 4 (fun G => .blk ((G 6).b) #[iv ba0, iv ba1, iv ba2, iv ba3, iv ba4, iv ba5] 23),
    .k (iv baE)] (fun _ _ => by kernel_rfl) fun _ _ G4 => ?_
  intro S4 t4
  refine nm (Dm.opV (Dm.Rt [b0, b1, b2, b3, b4, b5] ∧ Dm.Rt [c0, c1, c2, c3, c4, c5]) [b0 + c0, b1 + c1, b2 + c2, b3 + c3, b4 + c4, b5 + c5] 0 : Int) fun bc0 hbc0 => ?_
  refine nm (Dm.opV (Dm.Rt [b0, b1, b2, b3, b4, b5] ∧ Dm.Rt [c0, c1, c2, c3, c4, c5]) [b0 + c0, b1 + c1, b2 + c2, b3 + c3, b4 + c4, b5 + c5] 1 : Int) fun bc1 hbc1 => ?_
  refine nm (Dm.opV (Dm.Rt [b0, b1, b2, b3, b4, b5] ∧ Dm.Rt [c0, c1, c2, c3, c4, c5]) [b0 + c0, b1 + c1, b2 + c2, b3 + c3, b4 + c4, b5 + c5] 2 : Int) fun bc2 hbc2 => ?_
  refine nm (Dm.opV (Dm.Rt [b0, b1, b2, b3, b4, b5] ∧ Dm.Rt [c0, c1, c2, c3, c4, c5]) [b0 + c0, b1 + c1, b2 + c2, b3 + c3, b4 + c4, b5 + c5] 3 : Int) fun bc3 hbc3 => ?_
  refine nm (Dm.opV (Dm.Rt [b0, b1, b2, b3, b4, b5] ∧ Dm.Rt [c0, c1, c2, c3, c4, c5]) [b0 + c0, b1 + c1, b2 + c2, b3 + c3, b4 + c4, b5 + c5] 4 : Int) fun bc4 hbc4 => ?_
  refine nm (Dm.opV (Dm.Rt [b0, b1, b2, b3, b4, b5] ∧ Dm.Rt [c0, c1, c2, c3, c4, c5]) [b0 + c0, b1 + c1, b2 + c2, b3 + c3, b4 + c4, b5 + c5] 5 : Int) fun bc5 hbc5 => ?_
  refine nm (Dm.opE (Dm.Rt [b0, b1, b2, b3, b4, b5] ∧ Dm.Rt [c0, c1, c2, c3, c4, c5]) [b0 + c0, b1 + c1, b2 + c2, b3 + c3, b4 + c4, b5 + c5] : Int) fun bcE hbcE => ?_
  refine V.go [.ld 1 0 true (fun _ => [iv b0, iv b1, iv b2, iv b3, iv b4, iv b5]),
    .ld 2 0 true (fun _ => [iv c0, iv c1, iv c2, iv c3, iv c4, iv c5]),
    .cp g0 2 10 [] (fun _ G => mul_ctv b0 b1 b2 b3 b4 b5 c0 c1 c2 c3 c4 c5 bc0 bc1 bc2 bc3 bc4 bc5 bcE hbc0.symm hbc1.symm hbc2.symm hbc3.symm hbc4.symm hbc5.symm hbcE.symm),
    .k (.tuple #[.agg #[iv bc0, iv bc1, iv bc2, iv bc3, iv bc4, iv bc5], iv bcE]),
    .k (.agg #[iv bc0, iv bc1, iv bc2, iv bc3, iv bc4, iv bc5]),
    .k (iv bcE),
    .nb 6 5 (fun b => pp b 0) 23 (fun _ => #[iv 0, iv 0, iv 0, iv 0, iv 0, iv 0]),
    .st 5 (fun G => .blk ((G 6).b) #[iv bc0, iv bc1, iv bc2, iv bc3, iv bc4, iv bc5] 23),
    .k (iv bcE)] (fun _ _ => by kernel_rfl) fun _ _ G5 => ?_
  intro S5 t5
  have qabba := Dm.op_eq (p := (Dm.Rt [a0, a1, a2, a3, a4, a5] ∧ Dm.Rt [b0, b1, b2, b3, b4, b5])) (q := (Dm.Rt [b0, b1, b2, b3, b4, b5] ∧ Dm.Rt [a0, a1, a2, a3, a4, a5])) (l := [a0 + b0, a1 + b1, a2 + b2, a3 + b3, a4 + b4, a5 + b5]) (m := [b0 + a0, b1 + a1, b2 + a2, b3 + a3, b4 + a4, b5 + a5]) ⟨And.symm, And.symm⟩ (by exact Dm.six_comm.symm)
  have qabba0 : ab0 = ba0 := by rw [hab0, hba0]; exact qabba.2 0
  have qabba1 : ab1 = ba1 := by rw [hab1, hba1]; exact qabba.2 1
  have qabba2 : ab2 = ba2 := by rw [hab2, hba2]; exact qabba.2 2
  have qabba3 : ab3 = ba3 := by rw [hab3, hba3]; exact qabba.2 3
  have qabba4 : ab4 = ba4 := by rw [hab4, hba4]; exact qabba.2 4
  have qabba5 : ab5 = ba5 := by rw [hab5, hba5]; exact qabba.2 5
  have qabbaE : abE = baE := by rw [habE, hbaE]; exact qabba.1
  have rab : Dm.Rt [ab0, ab1, ab2, ab3, ab4, ab5] := by rw [hab0, hab1, hab2, hab3, hab4, hab5]; exact Dm.op_rt rfl
  have h1 : abE = 1 ↔ ¬ (Dm.Rt [a0, a1, a2, a3, a4, a5] ∧ Dm.Rt [b0, b1, b2, b3, b4, b5]) := by rw [habE]; exact Dm.op_1
  refine nm ((!(decide (ab0 = ba0 ∧ ab1 = ba1 ∧ ab2 = ba2 ∧ ab3 = ba3 ∧ ab4 = ba4 ∧ ab5 = ba5))) || (!(decide (abE = baE))) : Bool) fun p1 hp1 => ?_
  refine nm ((!(decide (Dm.Rt [a0, a1, a2, a3, a4, a5]))) || (!(decide (Dm.Rt [b0, b1, b2, b3, b4, b5]))) : Bool) fun p2 hp2 => ?_
  refine nm ((p1 || (!((decide (abE = 1)) == p2))) || (!(decide (Dm.Rt [ab0, ab1, ab2, ab3, ab4, ab5]))) : Bool) fun p3 hp3 => ?_
  refine V.go [.ld 3 0 true (fun _ => [iv ab0, iv ab1, iv ab2, iv ab3, iv ab4, iv ab5]),
    .ld 4 0 true (fun _ => [iv ba0, iv ba1, iv ba2, iv ba3, iv ba4, iv ba5]),
    .aeq true 23 #[iv ab0, iv ab1, iv ab2, iv ab3, iv ab4, iv ab5] #[iv ba0, iv ba1, iv ba2, iv ba3, iv ba4, iv ba5] _ fun w => dim_equal w ab0 ab1 ab2 ab3 ab4 ab5 ba0 ba1 ba2 ba3 ba4 ba5,
    .k (bv (!(decide (ab0 = ba0 ∧ ab1 = ba1 ∧ ab2 = ba2 ∧ ab3 = ba3 ∧ ab4 = ba4 ∧ ab5 = ba5)))),
    .k (iv abE),
    .k (iv baE),
    .k (bv (!(decide (abE = baE)))),
    .orn g0 false (!(decide (ab0 = ba0 ∧ ab1 = ba1 ∧ ab2 = ba2 ∧ ab3 = ba3 ∧ ab4 = ba4 ∧ ab5 = ba5))) (!(decide (abE = baE))) p1 hp1,
    .k (bv p1),
    .k (iv abE),
    .k (bv (decide (abE = 1))),
    .ld 0 0 true (fun _ => [iv a0, iv a1, iv a2, iv a3, iv a4, iv a5]),
    .cp (gF (b := p1) (iN hp1 (iOF (iNF iDT) (iNF iDT)))) 12 9 [] (fun hg G => right_ct a0 a1 a2 a3 a4 a5),
    .k (bv (!(decide (Dm.Rt [a0, a1, a2, a3, a4, a5])))),
    .k (bv (!(decide (Dm.Rt [a0, a1, a2, a3, a4, a5])))),
    .ld 1 0 true (fun _ => [iv b0, iv b1, iv b2, iv b3, iv b4, iv b5]),
    .cp ((gF (b := p1) (iN hp1 (iOF (iNF iDT) (iNF iDT)))).F (b := !(decide (Dm.Rt [a0, a1, a2, a3, a4, a5]))) (iNF iDT)) 16 9 [] (fun hg G => right_ct b0 b1 b2 b3 b4 b5),
    .k (bv (!(decide (Dm.Rt [b0, b1, b2, b3, b4, b5])))),
    .orn (gF (b := p1) (iN hp1 (iOF (iNF iDT) (iNF iDT)))) false (!(decide (Dm.Rt [a0, a1, a2, a3, a4, a5]))) (!(decide (Dm.Rt [b0, b1, b2, b3, b4, b5]))) p2 hp2,
    .k (bv (!((decide (abE = 1)) == p2))),
    .or g0 false p1 (!((decide (abE = 1)) == p2)),
    .k (bv (p1 || (!((decide (abE = 1)) == p2)))),
    .ld 3 0 true (fun _ => [iv ab0, iv ab1, iv ab2, iv ab3, iv ab4, iv ab5]),
    .cp (gF (b := p1 || (!((decide (abE = 1)) == p2))) (iOF (iN hp1 (iOF (iNF iDT) (iNF iDT))) (iNF (iQT iDT (iN hp2 (iOT (iNT iDF) (iNT iDF))))))) 23 9 [] (fun hg G => right_ct ab0 ab1 ab2 ab3 ab4 ab5),
    .k (bv (!(decide (Dm.Rt [ab0, ab1, ab2, ab3, ab4, ab5])))),
    .orn g0 false (p1 || (!((decide (abE = 1)) == p2))) (!(decide (Dm.Rt [ab0, ab1, ab2, ab3, ab4, ab5]))) p3 hp3] (fun _ _ => by kernel_rfl) fun _ _ G6 => ?_
  intro S6 t6
  refine V.cond (b := p3) (iN hp3 (iOT (iOT (iN hp1 (iOT (iNT iDF) (iNT iDF))) (iNT (iQF iDT (iN hp2 (iOT (iNT iDF) (iNT iDF)))))) (iNT iDF))) (iN hp3 (iOF (iOF (iN hp1 (iOF (iNF iDT) (iNF iDT))) (iNF (iQT iDT (iN hp2 (iOT (iNT iDF) (iNT iDF)))))) (iNF iDT))) (by kernel_rfl) (fun q1 => ?_) (fun q2 => ?_)
  · skip
    rcases q1 with ((h | h) | h) | h
    · exact (h ⟨qabba0, qabba1, qabba2, qabba3, qabba4, qabba5⟩).elim
    · exact (h qabbaE).elim
    · exact (h (h1.trans Dm.nand)).elim
    · exact (h rab).elim
  · skip
    refine V.go [.k (iv abE),
      .k (bv (!(decide (abE = 0))))] (fun _ _ => by kernel_rfl) fun _ _ G7 => ?_
    intro S7 t7
    refine V.cond (b := !(decide (abE = 0))) (iNT iDF) (iNF iDT) (by kernel_rfl) (fun q3 => ?_) (fun q4 => ?_)
    · skip
      refine V.go [.k (bv true),
        .k (bv true),
        .ld 3 0 true (fun _ => [iv ab0, iv ab1, iv ab2, iv ab3, iv ab4, iv ab5]),
        .k (.agg #[iv 0, iv 0, iv 0, iv 0, iv 0, iv 0]),
        .aeq false 23 #[iv ab0, iv ab1, iv ab2, iv ab3, iv ab4, iv ab5] #[iv 0, iv 0, iv 0, iv 0, iv 0, iv 0] _ fun w => dim_equal w ab0 ab1 ab2 ab3 ab4 ab5 0 0 0 0 0 0,
        .k (bv (decide (ab0 = 0 ∧ ab1 = 0 ∧ ab2 = 0 ∧ ab3 = 0 ∧ ab4 = 0 ∧ ab5 = 0))),
        .k (bv (decide (ab0 = 0 ∧ ab1 = 0 ∧ ab2 = 0 ∧ ab3 = 0 ∧ ab4 = 0 ∧ ab5 = 0)))] (fun _ _ => by kernel_rfl) fun _ _ G8 => ?_
      intro S8 t8
      have e0 : (decide (ab0 = 0 ∧ ab1 = 0 ∧ ab2 = 0 ∧ ab3 = 0 ∧ ab4 = 0 ∧ ab5 = 0)) = true := by
        refine iDT.2 ?_
        have hz := Dm.op_n (p := (Dm.Rt [a0, a1, a2, a3, a4, a5] ∧ Dm.Rt [b0, b1, b2, b3, b4, b5])) (l := [a0 + b0, a1 + b1, a2 + b2, a3 + b3, a4 + b4, a5 + b5]) (by rw [← habE]; exact q3)
        exact ⟨hab0.trans (hz 0), hab1.trans (hz 1), hab2.trans (hz 2), hab3.trans (hz 3), hab4.trans (hz 4), hab5.trans (hz 5)⟩
      exact V.ret [0] [] [] [] [] [] (bv (decide (ab0 = 0 ∧ ab1 = 0 ∧ ab2 = 0 ∧ ab3 = 0 ∧ ab4 = 0 ∧ ab5 = 0))) (fun _ _ => by kernel_rfl) (fun _ _ => (Eq.trans (by kernel_rfl) (cong1 (fun (x0 : Bool) => (bv x0 : Value)) e0)).trans (by kernel_rfl)) (fun _ _ => trivial)
    · skip
      refine nm (Dm.opV (Dm.Rt [ab0, ab1, ab2, ab3, ab4, ab5] ∧ Dm.Rt [b0, b1, b2, b3, b4, b5]) [ab0 - b0, ab1 - b1, ab2 - b2, ab3 - b3, ab4 - b4, ab5 - b5] 0 : Int) fun bk0 hbk0 => ?_
      refine nm (Dm.opV (Dm.Rt [ab0, ab1, ab2, ab3, ab4, ab5] ∧ Dm.Rt [b0, b1, b2, b3, b4, b5]) [ab0 - b0, ab1 - b1, ab2 - b2, ab3 - b3, ab4 - b4, ab5 - b5] 1 : Int) fun bk1 hbk1 => ?_
      refine nm (Dm.opV (Dm.Rt [ab0, ab1, ab2, ab3, ab4, ab5] ∧ Dm.Rt [b0, b1, b2, b3, b4, b5]) [ab0 - b0, ab1 - b1, ab2 - b2, ab3 - b3, ab4 - b4, ab5 - b5] 2 : Int) fun bk2 hbk2 => ?_
      refine nm (Dm.opV (Dm.Rt [ab0, ab1, ab2, ab3, ab4, ab5] ∧ Dm.Rt [b0, b1, b2, b3, b4, b5]) [ab0 - b0, ab1 - b1, ab2 - b2, ab3 - b3, ab4 - b4, ab5 - b5] 3 : Int) fun bk3 hbk3 => ?_
      refine nm (Dm.opV (Dm.Rt [ab0, ab1, ab2, ab3, ab4, ab5] ∧ Dm.Rt [b0, b1, b2, b3, b4, b5]) [ab0 - b0, ab1 - b1, ab2 - b2, ab3 - b3, ab4 - b4, ab5 - b5] 4 : Int) fun bk4 hbk4 => ?_
      refine nm (Dm.opV (Dm.Rt [ab0, ab1, ab2, ab3, ab4, ab5] ∧ Dm.Rt [b0, b1, b2, b3, b4, b5]) [ab0 - b0, ab1 - b1, ab2 - b2, ab3 - b3, ab4 - b4, ab5 - b5] 5 : Int) fun bk5 hbk5 => ?_
      refine nm (Dm.opE (Dm.Rt [ab0, ab1, ab2, ab3, ab4, ab5] ∧ Dm.Rt [b0, b1, b2, b3, b4, b5]) [ab0 - b0, ab1 - b1, ab2 - b2, ab3 - b3, ab4 - b4, ab5 - b5] : Int) fun bkE hbkE => ?_
      have hE : abE = 0 := (by first | exact q4 | exact Decidable.not_not.1 q4)
      have oab := Dm.op_ok (p := (Dm.Rt [a0, a1, a2, a3, a4, a5] ∧ Dm.Rt [b0, b1, b2, b3, b4, b5])) (l := [a0 + b0, a1 + b1, a2 + b2, a3 + b3, a4 + b4, a5 + b5]) (by rw [← habE]; exact hE)
      obtain ⟨⟨hA, hB⟩, hAB⟩ := oab
      have hA6 := Dm.Rt6.1 hA
      have yab := Dm.op_y (p := (Dm.Rt [a0, a1, a2, a3, a4, a5] ∧ Dm.Rt [b0, b1, b2, b3, b4, b5])) (l := [a0 + b0, a1 + b1, a2 + b2, a3 + b3, a4 + b4, a5 + b5]) ⟨hA, hB⟩ hAB
      have abv0 : ab0 = _ := hab0.trans (yab.2 0)
      have abv1 : ab1 = _ := hab1.trans (yab.2 1)
      have abv2 : ab2 = _ := hab2.trans (yab.2 2)
      have abv3 : ab3 = _ := hab3.trans (yab.2 3)
      have abv4 : ab4 = _ := hab4.trans (yab.2 4)
      have abv5 : ab5 = _ := hab5.trans (yab.2 5)
      have abvE := habE.trans yab.1
      replace abv0 : ab0 = a0 + b0 := abv0
      replace abv1 : ab1 = a1 + b1 := abv1
      replace abv2 : ab2 = a2 + b2 := abv2
      replace abv3 : ab3 = a3 + b3 := abv3
      replace abv4 : ab4 = a4 + b4 := abv4
      replace abv5 : ab5 = a5 + b5 := abv5
      refine V.go [.ld 3 0 true (fun _ => [iv ab0, iv ab1, iv ab2, iv ab3, iv ab4, iv ab5]),
        .ld 1 0 true (fun _ => [iv b0, iv b1, iv b2, iv b3, iv b4, iv b5]),
        .cp g0 2 11 [] (fun _ G => div_ctv2 ab0 ab1 ab2 ab3 ab4 ab5 b0 b1 b2 b3 b4 b5 bk0 bk1 bk2 bk3 bk4 bk5 bkE hbk0.symm hbk1.symm hbk2.symm hbk3.symm hbk4.symm hbk5.symm hbkE.symm),
        .k (.tuple #[.agg #[iv bk0, iv bk1, iv bk2, iv bk3, iv bk4, iv bk5], iv bkE]),
        .k (.agg #[iv bk0, iv bk1, iv bk2, iv bk3, iv bk4, iv bk5]),
        .k (iv bkE),
        .nb 6 6 (fun b => pp b 0) 23 (fun _ => #[iv 0, iv 0, iv 0, iv 0, iv 0, iv 0]),
        .st 6 (fun G => .blk ((G 6).b) #[iv bk0, iv bk1, iv bk2, iv bk3, iv bk4, iv bk5] 23),
        .k (iv bkE)] (fun _ _ => by kernel_rfl) fun _ _ G9 => ?_
      intro S9 t9
      refine nm (Dm.opV (Dm.Rt [a0, a1, a2, a3, a4, a5] ∧ Dm.Rt [(0 : Int), (0 : Int), (0 : Int), (0 : Int), (0 : Int), (0 : Int)]) [a0 + (0 : Int), a1 + (0 : Int), a2 + (0 : Int), a3 + (0 : Int), a4 + (0 : Int), a5 + (0 : Int)] 0 : Int) fun sm0 hsm0 => ?_
      refine nm (Dm.opV (Dm.Rt [a0, a1, a2, a3, a4, a5] ∧ Dm.Rt [(0 : Int), (0 : Int), (0 : Int), (0 : Int), (0 : Int), (0 : Int)]) [a0 + (0 : Int), a1 + (0 : Int), a2 + (0 : Int), a3 + (0 : Int), a4 + (0 : Int), a5 + (0 : Int)] 1 : Int) fun sm1 hsm1 => ?_
      refine nm (Dm.opV (Dm.Rt [a0, a1, a2, a3, a4, a5] ∧ Dm.Rt [(0 : Int), (0 : Int), (0 : Int), (0 : Int), (0 : Int), (0 : Int)]) [a0 + (0 : Int), a1 + (0 : Int), a2 + (0 : Int), a3 + (0 : Int), a4 + (0 : Int), a5 + (0 : Int)] 2 : Int) fun sm2 hsm2 => ?_
      refine nm (Dm.opV (Dm.Rt [a0, a1, a2, a3, a4, a5] ∧ Dm.Rt [(0 : Int), (0 : Int), (0 : Int), (0 : Int), (0 : Int), (0 : Int)]) [a0 + (0 : Int), a1 + (0 : Int), a2 + (0 : Int), a3 + (0 : Int), a4 + (0 : Int), a5 + (0 : Int)] 3 : Int) fun sm3 hsm3 => ?_
      refine nm (Dm.opV (Dm.Rt [a0, a1, a2, a3, a4, a5] ∧ Dm.Rt [(0 : Int), (0 : Int), (0 : Int), (0 : Int), (0 : Int), (0 : Int)]) [a0 + (0 : Int), a1 + (0 : Int), a2 + (0 : Int), a3 + (0 : Int), a4 + (0 : Int), a5 + (0 : Int)] 4 : Int) fun sm4 hsm4 => ?_
      refine nm (Dm.opV (Dm.Rt [a0, a1, a2, a3, a4, a5] ∧ Dm.Rt [(0 : Int), (0 : Int), (0 : Int), (0 : Int), (0 : Int), (0 : Int)]) [a0 + (0 : Int), a1 + (0 : Int), a2 + (0 : Int), a3 + (0 : Int), a4 + (0 : Int), a5 + (0 : Int)] 5 : Int) fun sm5 hsm5 => ?_
      refine nm (Dm.opE (Dm.Rt [a0, a1, a2, a3, a4, a5] ∧ Dm.Rt [(0 : Int), (0 : Int), (0 : Int), (0 : Int), (0 : Int), (0 : Int)]) [a0 + (0 : Int), a1 + (0 : Int), a2 + (0 : Int), a3 + (0 : Int), a4 + (0 : Int), a5 + (0 : Int)] : Int) fun smE hsmE => ?_
      refine V.go [.ld 0 0 true (fun _ => [iv a0, iv a1, iv a2, iv a3, iv a4, iv a5]),
        .k (.agg #[iv 0, iv 0, iv 0, iv 0, iv 0, iv 0]),
        .cp g0 2 10 [] (fun _ G => mul_ctv a0 a1 a2 a3 a4 a5 (0 : Int) (0 : Int) (0 : Int) (0 : Int) (0 : Int) (0 : Int) sm0 sm1 sm2 sm3 sm4 sm5 smE hsm0.symm hsm1.symm hsm2.symm hsm3.symm hsm4.symm hsm5.symm hsmE.symm),
        .k (.tuple #[.agg #[iv sm0, iv sm1, iv sm2, iv sm3, iv sm4, iv sm5], iv smE]),
        .k (.agg #[iv sm0, iv sm1, iv sm2, iv sm3, iv sm4, iv sm5]),
        .k (iv smE),
        .nb 6 7 (fun b => pp b 0) 23 (fun _ => #[iv 0, iv 0, iv 0, iv 0, iv 0, iv 0]),
        .st 7 (fun G => .blk ((G 6).b) #[iv sm0, iv sm1, iv sm2, iv sm3, iv sm4, iv sm5] 23),
        .k (iv smE)] (fun _ _ => by kernel_rfl) fun _ _ G10 => ?_
      intro S10 t10
      refine nm (Dm.opV (Dm.Rt [a0, a1, a2, a3, a4, a5] ∧ Dm.Rt [a0, a1, a2, a3, a4, a5]) [a0 - a0, a1 - a1, a2 - a2, a3 - a3, a4 - a4, a5 - a5] 0 : Int) fun no0 hno0 => ?_
      refine nm (Dm.opV (Dm.Rt [a0, a1, a2, a3, a4, a5] ∧ Dm.Rt [a0, a1, a2, a3, a4, a5]) [a0 - a0, a1 - a1, a2 - a2, a3 - a3, a4 - a4, a5 - a5] 1 : Int) fun no1 hno1 => ?_
      refine nm (Dm.opV (Dm.Rt [a0, a1, a2, a3, a4, a5] ∧ Dm.Rt [a0, a1, a2, a3, a4, a5]) [a0 - a0, a1 - a1, a2 - a2, a3 - a3, a4 - a4, a5 - a5] 2 : Int) fun no2 hno2 => ?_
      refine nm (Dm.opV (Dm.Rt [a0, a1, a2, a3, a4, a5] ∧ Dm.Rt [a0, a1, a2, a3, a4, a5]) [a0 - a0, a1 - a1, a2 - a2, a3 - a3, a4 - a4, a5 - a5] 3 : Int) fun no3 hno3 => ?_
      refine nm (Dm.opV (Dm.Rt [a0, a1, a2, a3, a4, a5] ∧ Dm.Rt [a0, a1, a2, a3, a4, a5]) [a0 - a0, a1 - a1, a2 - a2, a3 - a3, a4 - a4, a5 - a5] 4 : Int) fun no4 hno4 => ?_
      refine nm (Dm.opV (Dm.Rt [a0, a1, a2, a3, a4, a5] ∧ Dm.Rt [a0, a1, a2, a3, a4, a5]) [a0 - a0, a1 - a1, a2 - a2, a3 - a3, a4 - a4, a5 - a5] 5 : Int) fun no5 hno5 => ?_
      refine nm (Dm.opE (Dm.Rt [a0, a1, a2, a3, a4, a5] ∧ Dm.Rt [a0, a1, a2, a3, a4, a5]) [a0 - a0, a1 - a1, a2 - a2, a3 - a3, a4 - a4, a5 - a5] : Int) fun noE hnoE => ?_
      refine V.go [.ld 0 0 true (fun _ => [iv a0, iv a1, iv a2, iv a3, iv a4, iv a5]),
        .ld 0 0 true (fun _ => [iv a0, iv a1, iv a2, iv a3, iv a4, iv a5]),
        .cp g0 2 11 [] (fun _ G => div_ctv2 a0 a1 a2 a3 a4 a5 a0 a1 a2 a3 a4 a5 no0 no1 no2 no3 no4 no5 noE hno0.symm hno1.symm hno2.symm hno3.symm hno4.symm hno5.symm hnoE.symm),
        .k (.tuple #[.agg #[iv no0, iv no1, iv no2, iv no3, iv no4, iv no5], iv noE]),
        .k (.agg #[iv no0, iv no1, iv no2, iv no3, iv no4, iv no5]),
        .k (iv noE),
        .nb 6 8 (fun b => pp b 0) 23 (fun _ => #[iv 0, iv 0, iv 0, iv 0, iv 0, iv 0]),
        .st 8 (fun G => .blk ((G 6).b) #[iv no0, iv no1, iv no2, iv no3, iv no4, iv no5] 23),
        .k (iv noE)] (fun _ _ => by kernel_rfl) fun _ _ G11 => ?_
      intro S11 t11
      have ybk := Dm.op_y (p := (Dm.Rt [ab0, ab1, ab2, ab3, ab4, ab5] ∧ Dm.Rt [b0, b1, b2, b3, b4, b5])) (l := [ab0 - b0, ab1 - b1, ab2 - b2, ab3 - b3, ab4 - b4, ab5 - b5]) ⟨rab, hB⟩ (Dm.Rt6.2 (by omega))
      have bkv0 : bk0 = _ := hbk0.trans (ybk.2 0)
      have bkv1 : bk1 = _ := hbk1.trans (ybk.2 1)
      have bkv2 : bk2 = _ := hbk2.trans (ybk.2 2)
      have bkv3 : bk3 = _ := hbk3.trans (ybk.2 3)
      have bkv4 : bk4 = _ := hbk4.trans (ybk.2 4)
      have bkv5 : bk5 = _ := hbk5.trans (ybk.2 5)
      have bkvE := hbkE.trans ybk.1
      replace bkv0 : bk0 = ab0 - b0 := bkv0
      replace bkv1 : bk1 = ab1 - b1 := bkv1
      replace bkv2 : bk2 = ab2 - b2 := bkv2
      replace bkv3 : bk3 = ab3 - b3 := bkv3
      replace bkv4 : bk4 = ab4 - b4 := bkv4
      replace bkv5 : bk5 = ab5 - b5 := bkv5
      have ysm := Dm.op_y (p := (Dm.Rt [a0, a1, a2, a3, a4, a5] ∧ Dm.Rt [(0 : Int), (0 : Int), (0 : Int), (0 : Int), (0 : Int), (0 : Int)])) (l := [a0 + (0 : Int), a1 + (0 : Int), a2 + (0 : Int), a3 + (0 : Int), a4 + (0 : Int), a5 + (0 : Int)]) ⟨hA, Dm.rt_zero⟩ (Dm.Rt6.2 (by omega))
      have smv0 : sm0 = _ := hsm0.trans (ysm.2 0)
      have smv1 : sm1 = _ := hsm1.trans (ysm.2 1)
      have smv2 : sm2 = _ := hsm2.trans (ysm.2 2)
      have smv3 : sm3 = _ := hsm3.trans (ysm.2 3)
      have smv4 : sm4 = _ := hsm4.trans (ysm.2 4)
      have smv5 : sm5 = _ := hsm5.trans (ysm.2 5)
      have smvE := hsmE.trans ysm.1
      replace smv0 : sm0 = a0 + (0 : Int) := smv0
      replace smv1 : sm1 = a1 + (0 : Int) := smv1
      replace smv2 : sm2 = a2 + (0 : Int) := smv2
      replace smv3 : sm3 = a3 + (0 : Int) := smv3
      replace smv4 : sm4 = a4 + (0 : Int) := smv4
      replace smv5 : sm5 = a5 + (0 : Int) := smv5
      have yno := Dm.op_y (p := (Dm.Rt [a0, a1, a2, a3, a4, a5] ∧ Dm.Rt [a0, a1, a2, a3, a4, a5])) (l := [a0 - a0, a1 - a1, a2 - a2, a3 - a3, a4 - a4, a5 - a5]) ⟨hA, hA⟩ (Dm.Rt6.2 (by omega))
      have nov0 : no0 = _ := hno0.trans (yno.2 0)
      have nov1 : no1 = _ := hno1.trans (yno.2 1)
      have nov2 : no2 = _ := hno2.trans (yno.2 2)
      have nov3 : no3 = _ := hno3.trans (yno.2 3)
      have nov4 : no4 = _ := hno4.trans (yno.2 4)
      have nov5 : no5 = _ := hno5.trans (yno.2 5)
      have novE := hnoE.trans yno.1
      replace nov0 : no0 = a0 - a0 := nov0
      replace nov1 : no1 = a1 - a1 := nov1
      replace nov2 : no2 = a2 - a2 := nov2
      replace nov3 : no3 = a3 - a3 := nov3
      replace nov4 : no4 = a4 - a4 := nov4
      replace nov5 : no5 = a5 - a5 := nov5
      refine nm ((!(decide (bkE = 0))) || (!(decide (smE = 0))) : Bool) fun p4 hp4 => ?_
      refine nm ((p4 || (!(decide (noE = 0)))) || (!(decide (bk0 = a0 ∧ bk1 = a1 ∧ bk2 = a2 ∧ bk3 = a3 ∧ bk4 = a4 ∧ bk5 = a5))) : Bool) fun p5 hp5 => ?_
      refine nm (p5 || (!(decide (sm0 = a0 ∧ sm1 = a1 ∧ sm2 = a2 ∧ sm3 = a3 ∧ sm4 = a4 ∧ sm5 = a5))) : Bool) fun p6 hp6 => ?_
      refine nm (p6 || (!(decide (no0 = 0 ∧ no1 = 0 ∧ no2 = 0 ∧ no3 = 0 ∧ no4 = 0 ∧ no5 = 0))) : Bool) fun p7 hp7 => ?_
      refine V.go [.k (iv bkE),
        .k (bv (!(decide (bkE = 0)))),
        .k (bv (!(decide (bkE = 0)))),
        .k (iv smE),
        .k (bv (!(decide (smE = 0)))),
        .orn g0 false (!(decide (bkE = 0))) (!(decide (smE = 0))) p4 hp4,
        .k (bv p4),
        .k (iv noE),
        .k (bv (!(decide (noE = 0)))),
        .or g0 false p4 (!(decide (noE = 0))),
        .k (bv (p4 || (!(decide (noE = 0))))),
        .ld 6 0 true (fun _ => [iv bk0, iv bk1, iv bk2, iv bk3, iv bk4, iv bk5]),
        .ld 0 0 true (fun _ => [iv a0, iv a1, iv a2, iv a3, iv a4, iv a5]),
        .aeq true 23 #[iv bk0, iv bk1, iv bk2, iv bk3, iv bk4, iv bk5] #[iv a0, iv a1, iv a2, iv a3, iv a4, iv a5] _ fun w => dim_equal w bk0 bk1 bk2 bk3 bk4 bk5 a0 a1 a2 a3 a4 a5,
        .orn g0 false (p4 || (!(decide (noE = 0)))) (!(decide (bk0 = a0 ∧ bk1 = a1 ∧ bk2 = a2 ∧ bk3 = a3 ∧ bk4 = a4 ∧ bk5 = a5))) p5 hp5,
        .k (bv p5),
        .ld 7 0 true (fun _ => [iv sm0, iv sm1, iv sm2, iv sm3, iv sm4, iv sm5]),
        .ld 0 0 true (fun _ => [iv a0, iv a1, iv a2, iv a3, iv a4, iv a5]),
        .aeq true 23 #[iv sm0, iv sm1, iv sm2, iv sm3, iv sm4, iv sm5] #[iv a0, iv a1, iv a2, iv a3, iv a4, iv a5] _ fun w => dim_equal w sm0 sm1 sm2 sm3 sm4 sm5 a0 a1 a2 a3 a4 a5,
        .orn g0 false p5 (!(decide (sm0 = a0 ∧ sm1 = a1 ∧ sm2 = a2 ∧ sm3 = a3 ∧ sm4 = a4 ∧ sm5 = a5))) p6 hp6,
        .k (bv p6),
        .ld 8 0 true (fun _ => [iv no0, iv no1, iv no2, iv no3, iv no4, iv no5]),
        .k (.agg #[iv 0, iv 0, iv 0, iv 0, iv 0, iv 0]),
        .aeq true 23 #[iv no0, iv no1, iv no2, iv no3, iv no4, iv no5] #[iv 0, iv 0, iv 0, iv 0, iv 0, iv 0] _ fun w => dim_equal w no0 no1 no2 no3 no4 no5 0 0 0 0 0 0,
        .orn g0 false p6 (!(decide (no0 = 0 ∧ no1 = 0 ∧ no2 = 0 ∧ no3 = 0 ∧ no4 = 0 ∧ no5 = 0))) p7 hp7] (fun _ _ => by kernel_rfl) fun _ _ G12 => ?_
      intro S12 t12
      refine V.cond (b := p7) (iN hp7 (iOT (iN hp6 (iOT (iN hp5 (iOT (iOT (iN hp4 (iOT (iNT iDF) (iNT iDF))) (iNT iDF)) (iNT iDF))) (iNT iDF))) (iNT iDF))) (iN hp7 (iOF (iN hp6 (iOF (iN hp5 (iOF (iOF (iN hp4 (iOF (iNF iDT) (iNF iDT))) (iNF iDT)) (iNF iDT))) (iNF iDT))) (iNF iDT))) (by kernel_rfl) (fun q5 => ?_) (fun q6 => ?_)
      · skip
        exfalso; omega
      · skip
        refine nm (Dm.opV (Dm.Rt [ab0, ab1, ab2, ab3, ab4, ab5] ∧ Dm.Rt [c0, c1, c2, c3, c4, c5]) [ab0 + c0, ab1 + c1, ab2 + c2, ab3 + c3, ab4 + c4, ab5 + c5] 0 : Int) fun on0 hon0 => ?_
        refine nm (Dm.opV (Dm.Rt [ab0, ab1, ab2, ab3, ab4, ab5] ∧ Dm.Rt [c0, c1, c2, c3, c4, c5]) [ab0 + c0, ab1 + c1, ab2 + c2, ab3 + c3, ab4 + c4, ab5 + c5] 1 : Int) fun on1 hon1 => ?_
        refine nm (Dm.opV (Dm.Rt [ab0, ab1, ab2, ab3, ab4, ab5] ∧ Dm.Rt [c0, c1, c2, c3, c4, c5]) [ab0 + c0, ab1 + c1, ab2 + c2, ab3 + c3, ab4 + c4, ab5 + c5] 2 : Int) fun on2 hon2 => ?_
        refine nm (Dm.opV (Dm.Rt [ab0, ab1, ab2, ab3, ab4, ab5] ∧ Dm.Rt [c0, c1, c2, c3, c4, c5]) [ab0 + c0, ab1 + c1, ab2 + c2, ab3 + c3, ab4 + c4, ab5 + c5] 3 : Int) fun on3 hon3 => ?_
        refine nm (Dm.opV (Dm.Rt [ab0, ab1, ab2, ab3, ab4, ab5] ∧ Dm.Rt [c0, c1, c2, c3, c4, c5]) [ab0 + c0, ab1 + c1, ab2 + c2, ab3 + c3, ab4 + c4, ab5 + c5] 4 : Int) fun on4 hon4 => ?_
        refine nm (Dm.opV (Dm.Rt [ab0, ab1, ab2, ab3, ab4, ab5] ∧ Dm.Rt [c0, c1, c2, c3, c4, c5]) [ab0 + c0, ab1 + c1, ab2 + c2, ab3 + c3, ab4 + c4, ab5 + c5] 5 : Int) fun on5 hon5 => ?_
        refine nm (Dm.opE (Dm.Rt [ab0, ab1, ab2, ab3, ab4, ab5] ∧ Dm.Rt [c0, c1, c2, c3, c4, c5]) [ab0 + c0, ab1 + c1, ab2 + c2, ab3 + c3, ab4 + c4, ab5 + c5] : Int) fun onE honE => ?_
        refine V.go [.ld 3 0 true (fun _ => [iv ab0, iv ab1, iv ab2, iv ab3, iv ab4, iv ab5]),
          .ld 2 0 true (fun _ => [iv c0, iv c1, iv c2, iv c3, iv c4, iv c5]),
          .cp g0 2 10 [] (fun _ G => mul_ctv ab0 ab1 ab2 ab3 ab4 ab5 c0 c1 c2 c3 c4 c5 on0 on1 on2 on3 on4 on5 onE hon0.symm hon1.symm hon2.symm hon3.symm hon4.symm hon5.symm honE.symm),
          .k (.tuple #[.agg #[iv on0, iv on1, iv on2, iv on3, iv on4, iv on5], iv onE]),
          .k (.agg #[iv on0, iv on1, iv on2, iv on3, iv on4, iv on5]),
          .k (iv onE),
          .nb 6 9 (fun b => pp b 0) 23 (fun _ => #[iv 0, iv 0, iv 0, iv 0, iv 0, iv 0]),
          .st 9 (fun G => .blk ((G 6).b) #[iv on0, iv on1, iv on2, iv on3, iv on4, iv on5] 23),
          .k (iv onE)] (fun _ _ => by kernel_rfl) fun _ _ G13 => ?_
        intro S13 t13
        refine nm ((!(decide (bcE = 0))) || (!(decide (onE = 0))) : Bool) fun p8 hp8 => ?_
        refine V.go [.k (iv bcE),
          .k (bv (!(decide (bcE = 0)))),
          .k (bv (!(decide (bcE = 0)))),
          .k (iv onE),
          .k (bv (!(decide (onE = 0)))),
          .orn g0 false (!(decide (bcE = 0))) (!(decide (onE = 0))) p8 hp8] (fun _ _ => by kernel_rfl) fun _ _ G14 => ?_
        intro S14 t14
        refine V.cond (b := p8) (iN hp8 (iOT (iNT iDF) (iNT iDF))) (iN hp8 (iOF (iNF iDT) (iNF iDT))) (by kernel_rfl) (fun q7 => ?_) (fun q8 => ?_)
        · skip
          refine V.go [.k (bv true),
            .k (bv true)] (fun _ _ => by kernel_rfl) fun _ _ G15 => ?_
          intro S15 t15
          exact V.ret [0] [] [] [] [] [] (bv true) (fun _ _ => by kernel_rfl) (fun _ _ => by kernel_rfl) (fun _ _ => trivial)
        · skip
          refine nm (Dm.opV (Dm.Rt [a0, a1, a2, a3, a4, a5] ∧ Dm.Rt [bc0, bc1, bc2, bc3, bc4, bc5]) [a0 + bc0, a1 + bc1, a2 + bc2, a3 + bc3, a4 + bc4, a5 + bc5] 0 : Int) fun tw0 htw0 => ?_
          refine nm (Dm.opV (Dm.Rt [a0, a1, a2, a3, a4, a5] ∧ Dm.Rt [bc0, bc1, bc2, bc3, bc4, bc5]) [a0 + bc0, a1 + bc1, a2 + bc2, a3 + bc3, a4 + bc4, a5 + bc5] 1 : Int) fun tw1 htw1 => ?_
          refine nm (Dm.opV (Dm.Rt [a0, a1, a2, a3, a4, a5] ∧ Dm.Rt [bc0, bc1, bc2, bc3, bc4, bc5]) [a0 + bc0, a1 + bc1, a2 + bc2, a3 + bc3, a4 + bc4, a5 + bc5] 2 : Int) fun tw2 htw2 => ?_
          refine nm (Dm.opV (Dm.Rt [a0, a1, a2, a3, a4, a5] ∧ Dm.Rt [bc0, bc1, bc2, bc3, bc4, bc5]) [a0 + bc0, a1 + bc1, a2 + bc2, a3 + bc3, a4 + bc4, a5 + bc5] 3 : Int) fun tw3 htw3 => ?_
          refine nm (Dm.opV (Dm.Rt [a0, a1, a2, a3, a4, a5] ∧ Dm.Rt [bc0, bc1, bc2, bc3, bc4, bc5]) [a0 + bc0, a1 + bc1, a2 + bc2, a3 + bc3, a4 + bc4, a5 + bc5] 4 : Int) fun tw4 htw4 => ?_
          refine nm (Dm.opV (Dm.Rt [a0, a1, a2, a3, a4, a5] ∧ Dm.Rt [bc0, bc1, bc2, bc3, bc4, bc5]) [a0 + bc0, a1 + bc1, a2 + bc2, a3 + bc3, a4 + bc4, a5 + bc5] 5 : Int) fun tw5 htw5 => ?_
          refine nm (Dm.opE (Dm.Rt [a0, a1, a2, a3, a4, a5] ∧ Dm.Rt [bc0, bc1, bc2, bc3, bc4, bc5]) [a0 + bc0, a1 + bc1, a2 + bc2, a3 + bc3, a4 + bc4, a5 + bc5] : Int) fun twE htwE => ?_
          refine V.go [.ld 0 0 true (fun _ => [iv a0, iv a1, iv a2, iv a3, iv a4, iv a5]),
            .ld 5 0 true (fun _ => [iv bc0, iv bc1, iv bc2, iv bc3, iv bc4, iv bc5]),
            .cp g0 2 10 [] (fun _ G => mul_ctv a0 a1 a2 a3 a4 a5 bc0 bc1 bc2 bc3 bc4 bc5 tw0 tw1 tw2 tw3 tw4 tw5 twE htw0.symm htw1.symm htw2.symm htw3.symm htw4.symm htw5.symm htwE.symm),
            .k (.tuple #[.agg #[iv tw0, iv tw1, iv tw2, iv tw3, iv tw4, iv tw5], iv twE]),
            .k (.agg #[iv tw0, iv tw1, iv tw2, iv tw3, iv tw4, iv tw5]),
            .k (iv twE),
            .nb 6 10 (fun b => pp b 0) 23 (fun _ => #[iv 0, iv 0, iv 0, iv 0, iv 0, iv 0]),
            .st 10 (fun G => .blk ((G 6).b) #[iv tw0, iv tw1, iv tw2, iv tw3, iv tw4, iv tw5] 23),
            .k (iv twE)] (fun _ _ => by kernel_rfl) fun _ _ G16 => ?_
          intro S16 t16
          obtain ⟨hg0, hk0⟩ : bcE = 0 ∧ onE = 0 := by omega
          have obc := Dm.op_ok (p := (Dm.Rt [b0, b1, b2, b3, b4, b5] ∧ Dm.Rt [c0, c1, c2, c3, c4, c5])) (l := [b0 + c0, b1 + c1, b2 + c2, b3 + c3, b4 + c4, b5 + c5]) (by rw [← hbcE]; exact hg0)
          have oon := Dm.op_ok (p := (Dm.Rt [ab0, ab1, ab2, ab3, ab4, ab5] ∧ Dm.Rt [c0, c1, c2, c3, c4, c5])) (l := [ab0 + c0, ab1 + c1, ab2 + c2, ab3 + c3, ab4 + c4, ab5 + c5]) (by rw [← honE]; exact hk0)
          obtain ⟨⟨_, hC⟩, hBC⟩ := obc
          obtain ⟨⟨_, _⟩, hON⟩ := oon
          have rbc : Dm.Rt [bc0, bc1, bc2, bc3, bc4, bc5] := by rw [hbc0, hbc1, hbc2, hbc3, hbc4, hbc5]; exact Dm.op_rt rfl
          have hON6 := Dm.Rt6.1 hON
          have ybc := Dm.op_y (p := (Dm.Rt [b0, b1, b2, b3, b4, b5] ∧ Dm.Rt [c0, c1, c2, c3, c4, c5])) (l := [b0 + c0, b1 + c1, b2 + c2, b3 + c3, b4 + c4, b5 + c5]) ⟨hB, hC⟩ hBC
          have bcv0 : bc0 = _ := hbc0.trans (ybc.2 0)
          have bcv1 : bc1 = _ := hbc1.trans (ybc.2 1)
          have bcv2 : bc2 = _ := hbc2.trans (ybc.2 2)
          have bcv3 : bc3 = _ := hbc3.trans (ybc.2 3)
          have bcv4 : bc4 = _ := hbc4.trans (ybc.2 4)
          have bcv5 : bc5 = _ := hbc5.trans (ybc.2 5)
          have bcvE := hbcE.trans ybc.1
          replace bcv0 : bc0 = b0 + c0 := bcv0
          replace bcv1 : bc1 = b1 + c1 := bcv1
          replace bcv2 : bc2 = b2 + c2 := bcv2
          replace bcv3 : bc3 = b3 + c3 := bcv3
          replace bcv4 : bc4 = b4 + c4 := bcv4
          replace bcv5 : bc5 = b5 + c5 := bcv5
          have yon := Dm.op_y (p := (Dm.Rt [ab0, ab1, ab2, ab3, ab4, ab5] ∧ Dm.Rt [c0, c1, c2, c3, c4, c5])) (l := [ab0 + c0, ab1 + c1, ab2 + c2, ab3 + c3, ab4 + c4, ab5 + c5]) ⟨rab, hC⟩ hON
          have onv0 : on0 = _ := hon0.trans (yon.2 0)
          have onv1 : on1 = _ := hon1.trans (yon.2 1)
          have onv2 : on2 = _ := hon2.trans (yon.2 2)
          have onv3 : on3 = _ := hon3.trans (yon.2 3)
          have onv4 : on4 = _ := hon4.trans (yon.2 4)
          have onv5 : on5 = _ := hon5.trans (yon.2 5)
          have onvE := honE.trans yon.1
          replace onv0 : on0 = ab0 + c0 := onv0
          replace onv1 : on1 = ab1 + c1 := onv1
          replace onv2 : on2 = ab2 + c2 := onv2
          replace onv3 : on3 = ab3 + c3 := onv3
          replace onv4 : on4 = ab4 + c4 := onv4
          replace onv5 : on5 = ab5 + c5 := onv5
          have ytw := Dm.op_y (p := (Dm.Rt [a0, a1, a2, a3, a4, a5] ∧ Dm.Rt [bc0, bc1, bc2, bc3, bc4, bc5])) (l := [a0 + bc0, a1 + bc1, a2 + bc2, a3 + bc3, a4 + bc4, a5 + bc5]) ⟨hA, rbc⟩ (Dm.Rt6.2 (by omega))
          have twv0 : tw0 = _ := htw0.trans (ytw.2 0)
          have twv1 : tw1 = _ := htw1.trans (ytw.2 1)
          have twv2 : tw2 = _ := htw2.trans (ytw.2 2)
          have twv3 : tw3 = _ := htw3.trans (ytw.2 3)
          have twv4 : tw4 = _ := htw4.trans (ytw.2 4)
          have twv5 : tw5 = _ := htw5.trans (ytw.2 5)
          have twvE := htwE.trans ytw.1
          replace twv0 : tw0 = a0 + bc0 := twv0
          replace twv1 : tw1 = a1 + bc1 := twv1
          replace twv2 : tw2 = a2 + bc2 := twv2
          replace twv3 : tw3 = a3 + bc3 := twv3
          replace twv4 : tw4 = a4 + bc4 := twv4
          replace twv5 : tw5 = a5 + bc5 := twv5
          refine nm ((decide (twE = 0)) && (decide (on0 = tw0 ∧ on1 = tw1 ∧ on2 = tw2 ∧ on3 = tw3 ∧ on4 = tw4 ∧ on5 = tw5)) : Bool) fun p9 hp9 => ?_
          refine V.go [.k (bv true),
            .k (bv true),
            .k (iv twE),
            .k (bv (decide (twE = 0))),
            .k (bv (decide (twE = 0))),
            .k (bv (decide (twE = 0))),
            .ld 9 0 true (fun _ => [iv on0, iv on1, iv on2, iv on3, iv on4, iv on5]),
            .ld 10 0 true (fun _ => [iv tw0, iv tw1, iv tw2, iv tw3, iv tw4, iv tw5]),
            .aeq false 23 #[iv on0, iv on1, iv on2, iv on3, iv on4, iv on5] #[iv tw0, iv tw1, iv tw2, iv tw3, iv tw4, iv tw5] _ fun w => dim_equal w on0 on1 on2 on3 on4 on5 tw0 tw1 tw2 tw3 tw4 tw5,
            .andn g0 false (decide (twE = 0)) (decide (on0 = tw0 ∧ on1 = tw1 ∧ on2 = tw2 ∧ on3 = tw3 ∧ on4 = tw4 ∧ on5 = tw5)) p9 hp9,
            .k (bv p9)] (fun _ _ => by kernel_rfl) fun _ _ G17 => ?_
          intro S17 t17
          have e0 : p9 = true := by
            refine (iN hp9 (iAT iDT iDT)).2 ?_
            omega
          exact V.ret [0] [] [] [] [] [] (bv p9) (fun _ _ => by kernel_rfl) (fun _ _ => (Eq.trans (by kernel_rfl) (cong1 (fun (x0 : Bool) => (bv x0 : Value)) e0)).trans (by kernel_rfl)) (fun _ _ => trivial)

end Kb
