/- The law of powers. -/
import Derived.Test.YtmoekalfmahljaaVf
import Derived.Test.YtmoekalfmahljaaDn
set_option linter.unusedVariables false
set_option linter.unusedSectionVars false
set_option linter.unusedSimpArgs false
namespace Kb
open Go Go.Proofs
set_option maxRecDepth 10000 in
set_option maxHeartbeats 4000000 in
theorem powers_ct (a0 a1 a2 a3 a4 a5 n m : Int) (hn : -128 ≤ n ∧ n ≤ 127) (hm : -128 ≤ m ∧ m ≤ 127) :
    Cp Try.prog 5 #[.agg #[iv a0, iv a1, iv a2, iv a3, iv a4, iv a5], .int .i8 n, .int .i8 m] [] (bv true) := by
  refine V.fn mo Try.func5 177 11 (by kernel_rfl) fun w H ε k0 => ?_
  clear k0
  refine V.go [.nb 0 0 (fun b => pp b 0) 23 (fun _ => #[iv a0, iv a1, iv a2, iv a3, iv a4, iv a5]),
    .k (bv false)] (fun _ _ => by kernel_rfl) fun _ _ G1 => ?_
  intro S1 t1
  refine V.go [.cp g0 0 6 [] (fun _ G => sane_ct ),
    .k (bv true)] (fun _ _ => by kernel_rfl) fun _ _ G2 => ?_
  intro S2 t2
  refine nm (Dm.opV (Dm.Rt [a0, a1, a2, a3, a4, a5]) [a0 * (0 : Int), a1 * (0 : Int), a2 * (0 : Int), a3 * (0 : Int), a4 * (0 : Int), a5 * (0 : Int)] 0 : Int) fun z0 hz0 => ?_
  refine nm (Dm.opV (Dm.Rt [a0, a1, a2, a3, a4, a5]) [a0 * (0 : Int), a1 * (0 : Int), a2 * (0 : Int), a3 * (0 : Int), a4 * (0 : Int), a5 * (0 : Int)] 1 : Int) fun z1 hz1 => ?_
  refine nm (Dm.opV (Dm.Rt [a0, a1, a2, a3, a4, a5]) [a0 * (0 : Int), a1 * (0 : Int), a2 * (0 : Int), a3 * (0 : Int), a4 * (0 : Int), a5 * (0 : Int)] 2 : Int) fun z2 hz2 => ?_
  refine nm (Dm.opV (Dm.Rt [a0, a1, a2, a3, a4, a5]) [a0 * (0 : Int), a1 * (0 : Int), a2 * (0 : Int), a3 * (0 : Int), a4 * (0 : Int), a5 * (0 : Int)] 3 : Int) fun z3 hz3 => ?_
  refine nm (Dm.opV (Dm.Rt [a0, a1, a2, a3, a4, a5]) [a0 * (0 : Int), a1 * (0 : Int), a2 * (0 : Int), a3 * (0 : Int), a4 * (0 : Int), a5 * (0 : Int)] 4 : Int) fun z4 hz4 => ?_
  refine nm (Dm.opV (Dm.Rt [a0, a1, a2, a3, a4, a5]) [a0 * (0 : Int), a1 * (0 : Int), a2 * (0 : Int), a3 * (0 : Int), a4 * (0 : Int), a5 * (0 : Int)] 5 : Int) fun z5 hz5 => ?_
  refine nm (Dm.opE (Dm.Rt [a0, a1, a2, a3, a4, a5]) [a0 * (0 : Int), a1 * (0 : Int), a2 * (0 : Int), a3 * (0 : Int), a4 * (0 : Int), a5 * (0 : Int)] : Int) fun zE hzE => ?_
  refine V.go [.ld 0 0 true (fun _ => [iv a0, iv a1, iv a2, iv a3, iv a4, iv a5]),
    .cp g0 1 12 [] (fun _ G => pow_ctv2 a0 a1 a2 a3 a4 a5 (0 : Int) z0 z1 z2 z3 z4 z5 zE hz0.symm hz1.symm hz2.symm hz3.symm hz4.symm hz5.symm hzE.symm),
    .k (.tuple #[.agg #[iv z0, iv z1, iv z2, iv z3, iv z4, iv z5], iv zE]),
    .k (.agg #[iv z0, iv z1, iv z2, iv z3, iv z4, iv z5]),
    .k (iv zE),
    .nb 5 1 (fun b => pp b 0) 23 (fun _ => #[iv 0, iv 0, iv 0, iv 0, iv 0, iv 0]),
    .st 1 (fun G => .blk ((G 5).b) #[iv z0, iv z1, iv z2, iv z3, iv z4, iv z5] 23),
    .k (iv zE)] (fun _ _ => by kernel_rfl) fun _ _ G3 => ?_
  intro S3 t3
  refine nm (Dm.opV (Dm.Rt [a0, a1, a2, a3, a4, a5]) [a0 * (1 : Int), a1 * (1 : Int), a2 * (1 : Int), a3 * (1 : Int), a4 * (1 : Int), a5 * (1 : Int)] 0 : Int) fun o0 ho0 => ?_
  refine nm (Dm.opV (Dm.Rt [a0, a1, a2, a3, a4, a5]) [a0 * (1 : Int), a1 * (1 : Int), a2 * (1 : Int), a3 * (1 : Int), a4 * (1 : Int), a5 * (1 : Int)] 1 : Int) fun o1 ho1 => ?_
  refine nm (Dm.opV (Dm.Rt [a0, a1, a2, a3, a4, a5]) [a0 * (1 : Int), a1 * (1 : Int), a2 * (1 : Int), a3 * (1 : Int), a4 * (1 : Int), a5 * (1 : Int)] 2 : Int) fun o2 ho2 => ?_
  refine nm (Dm.opV (Dm.Rt [a0, a1, a2, a3, a4, a5]) [a0 * (1 : Int), a1 * (1 : Int), a2 * (1 : Int), a3 * (1 : Int), a4 * (1 : Int), a5 * (1 : Int)] 3 : Int) fun o3 ho3 => ?_
  refine nm (Dm.opV (Dm.Rt [a0, a1, a2, a3, a4, a5]) [a0 * (1 : Int), a1 * (1 : Int), a2 * (1 : Int), a3 * (1 : Int), a4 * (1 : Int), a5 * (1 : Int)] 4 : Int) fun o4 ho4 => ?_
  refine nm (Dm.opV (Dm.Rt [a0, a1, a2, a3, a4, a5]) [a0 * (1 : Int), a1 * (1 : Int), a2 * (1 : Int), a3 * (1 : Int), a4 * (1 : Int), a5 * (1 : Int)] 5 : Int) fun o5 ho5 => ?_
  refine nm (Dm.opE (Dm.Rt [a0, a1, a2, a3, a4, a5]) [a0 * (1 : Int), a1 * (1 : Int), a2 * (1 : Int), a3 * (1 : Int), a4 * (1 : Int), a5 * (1 : Int)] : Int) fun oE hoE => ?_
  refine V.go [.ld 0 0 true (fun _ => [iv a0, iv a1, iv a2, iv a3, iv a4, iv a5]),
    .cp g0 1 12 [] (fun _ G => pow_ctv2 a0 a1 a2 a3 a4 a5 (1 : Int) o0 o1 o2 o3 o4 o5 oE ho0.symm ho1.symm ho2.symm ho3.symm ho4.symm ho5.symm hoE.symm),
    .k (.tuple #[.agg #[iv o0, iv o1, iv o2, iv o3, iv o4, iv o5], iv oE]),
    .k (.agg #[iv o0, iv o1, iv o2, iv o3, iv o4, iv o5]),
    .k (iv oE),
    .nb 5 2 (fun b => pp b 0) 23 (fun _ => #[iv 0, iv 0, iv 0, iv 0, iv 0, iv 0]),
    .st 2 (fun G => .blk ((G 5).b) #[iv o0, iv o1, iv o2, iv o3, iv o4, iv o5] 23),
    .k (iv oE)] (fun _ _ => by kernel_rfl) fun _ _ G4 => ?_
  intro S4 t4
  refine nm (Dm.opV (Dm.Rt [a0, a1, a2, a3, a4, a5]) [a0 * (-1 : Int), a1 * (-1 : Int), a2 * (-1 : Int), a3 * (-1 : Int), a4 * (-1 : Int), a5 * (-1 : Int)] 0 : Int) fun s0 hs0 => ?_
  refine nm (Dm.opV (Dm.Rt [a0, a1, a2, a3, a4, a5]) [a0 * (-1 : Int), a1 * (-1 : Int), a2 * (-1 : Int), a3 * (-1 : Int), a4 * (-1 : Int), a5 * (-1 : Int)] 1 : Int) fun s1 hs1 => ?_
  refine nm (Dm.opV (Dm.Rt [a0, a1, a2, a3, a4, a5]) [a0 * (-1 : Int), a1 * (-1 : Int), a2 * (-1 : Int), a3 * (-1 : Int), a4 * (-1 : Int), a5 * (-1 : Int)] 2 : Int) fun s2 hs2 => ?_
  refine nm (Dm.opV (Dm.Rt [a0, a1, a2, a3, a4, a5]) [a0 * (-1 : Int), a1 * (-1 : Int), a2 * (-1 : Int), a3 * (-1 : Int), a4 * (-1 : Int), a5 * (-1 : Int)] 3 : Int) fun s3 hs3 => ?_
  refine nm (Dm.opV (Dm.Rt [a0, a1, a2, a3, a4, a5]) [a0 * (-1 : Int), a1 * (-1 : Int), a2 * (-1 : Int), a3 * (-1 : Int), a4 * (-1 : Int), a5 * (-1 : Int)] 4 : Int) fun s4 hs4 => ?_
  refine nm (Dm.opV (Dm.Rt [a0, a1, a2, a3, a4, a5]) [a0 * (-1 : Int), a1 * (-1 : Int), a2 * (-1 : Int), a3 * (-1 : Int), a4 * (-1 : Int), a5 * (-1 : Int)] 5 : Int) fun s5 hs5 => ?_
  refine nm (Dm.opE (Dm.Rt [a0, a1, a2, a3, a4, a5]) [a0 * (-1 : Int), a1 * (-1 : Int), a2 * (-1 : Int), a3 * (-1 : Int), a4 * (-1 : Int), a5 * (-1 : Int)] : Int) fun sE hsE => ?_
  refine V.go [.ld 0 0 true (fun _ => [iv a0, iv a1, iv a2, iv a3, iv a4, iv a5]),
    .cp g0 1 12 [] (fun _ G => pow_ctv2 a0 a1 a2 a3 a4 a5 (-1 : Int) s0 s1 s2 s3 s4 s5 sE hs0.symm hs1.symm hs2.symm hs3.symm hs4.symm hs5.symm hsE.symm),
    .k (.tuple #[.agg #[iv s0, iv s1, iv s2, iv s3, iv s4, iv s5], iv sE]),
    .k (.agg #[iv s0, iv s1, iv s2, iv s3, iv s4, iv s5]),
    .k (iv sE),
    .nb 5 3 (fun b => pp b 0) 23 (fun _ => #[iv 0, iv 0, iv 0, iv 0, iv 0, iv 0]),
    .st 3 (fun G => .blk ((G 5).b) #[iv s0, iv s1, iv s2, iv s3, iv s4, iv s5] 23),
    .k (iv sE)] (fun _ _ => by kernel_rfl) fun _ _ G5 => ?_
  intro S5 t5
  refine nm (Dm.opV (Dm.Rt [(0 : Int), (0 : Int), (0 : Int), (0 : Int), (0 : Int), (0 : Int)] ∧ Dm.Rt [a0, a1, a2, a3, a4, a5]) [(0 : Int) - a0, (0 : Int) - a1, (0 : Int) - a2, (0 : Int) - a3, (0 : Int) - a4, (0 : Int) - a5] 0 : Int) fun v0 hv0 => ?_
  refine nm (Dm.opV (Dm.Rt [(0 : Int), (0 : Int), (0 : Int), (0 : Int), (0 : Int), (0 : Int)] ∧ Dm.Rt [a0, a1, a2, a3, a4, a5]) [(0 : Int) - a0, (0 : Int) - a1, (0 : Int) - a2, (0 : Int) - a3, (0 : Int) - a4, (0 : Int) - a5] 1 : Int) fun v1 hv1 => ?_
  refine nm (Dm.opV (Dm.Rt [(0 : Int), (0 : Int), (0 : Int), (0 : Int), (0 : Int), (0 : Int)] ∧ Dm.Rt [a0, a1, a2, a3, a4, a5]) [(0 : Int) - a0, (0 : Int) - a1, (0 : Int) - a2, (0 : Int) - a3, (0 : Int) - a4, (0 : Int) - a5] 2 : Int) fun v2 hv2 => ?_
  refine nm (Dm.opV (Dm.Rt [(0 : Int), (0 : Int), (0 : Int), (0 : Int), (0 : Int), (0 : Int)] ∧ Dm.Rt [a0, a1, a2, a3, a4, a5]) [(0 : Int) - a0, (0 : Int) - a1, (0 : Int) - a2, (0 : Int) - a3, (0 : Int) - a4, (0 : Int) - a5] 3 : Int) fun v3 hv3 => ?_
  refine nm (Dm.opV (Dm.Rt [(0 : Int), (0 : Int), (0 : Int), (0 : Int), (0 : Int), (0 : Int)] ∧ Dm.Rt [a0, a1, a2, a3, a4, a5]) [(0 : Int) - a0, (0 : Int) - a1, (0 : Int) - a2, (0 : Int) - a3, (0 : Int) - a4, (0 : Int) - a5] 4 : Int) fun v4 hv4 => ?_
  refine nm (Dm.opV (Dm.Rt [(0 : Int), (0 : Int), (0 : Int), (0 : Int), (0 : Int), (0 : Int)] ∧ Dm.Rt [a0, a1, a2, a3, a4, a5]) [(0 : Int) - a0, (0 : Int) - a1, (0 : Int) - a2, (0 : Int) - a3, (0 : Int) - a4, (0 : Int) - a5] 5 : Int) fun v5 hv5 => ?_
  refine nm (Dm.opE (Dm.Rt [(0 : Int), (0 : Int), (0 : Int), (0 : Int), (0 : Int), (0 : Int)] ∧ Dm.Rt [a0, a1, a2, a3, a4, a5]) [(0 : Int) - a0, (0 : Int) - a1, (0 : Int) - a2, (0 : Int) - a3, (0 : Int) - a4, (0 : Int) - a5] : Int) fun vE hvE => ?_
  refine V.go [.k (.agg #[iv 0, iv 0, iv 0, iv 0, iv 0, iv 0]),
    .ld 0 0 true (fun _ => [iv a0, iv a1, iv a2, iv a3, iv a4, iv a5]),
    .cp g0 2 11 [] (fun _ G => div_ctv2 (0 : Int) (0 : Int) (0 : Int) (0 : Int) (0 : Int) (0 : Int) a0 a1 a2 a3 a4 a5 v0 v1 v2 v3 v4 v5 vE hv0.symm hv1.symm hv2.symm hv3.symm hv4.symm hv5.symm hvE.symm),
    .k (.tuple #[.agg #[iv v0, iv v1, iv v2, iv v3, iv v4, iv v5], iv vE]),
    .k (.agg #[iv v0, iv v1, iv v2, iv v3, iv v4, iv v5]),
    .k (iv vE),
    .nb 6 4 (fun b => pp b 0) 23 (fun _ => #[iv 0, iv 0, iv 0, iv 0, iv 0, iv 0]),
    .st 4 (fun G => .blk ((G 6).b) #[iv v0, iv v1, iv v2, iv v3, iv v4, iv v5] 23),
    .k (iv vE)] (fun _ _ => by kernel_rfl) fun _ _ G6 => ?_
  intro S6 t6
  refine V.go [.ld 0 0 true (fun _ => [iv a0, iv a1, iv a2, iv a3, iv a4, iv a5]),
    .cp g0 1 9 [] (fun _ G => right_ct a0 a1 a2 a3 a4 a5),
    .k (bv (!(decide (Dm.Rt [a0, a1, a2, a3, a4, a5]))))] (fun _ _ => by kernel_rfl) fun _ _ G7 => ?_
  intro S7 t7
  refine V.cond (b := !(decide (Dm.Rt [a0, a1, a2, a3, a4, a5]))) (iNT iDF) (iNF iDT) (by kernel_rfl) (fun q1 => ?_) (fun q2 => ?_)
  · skip
    have hN : ¬ Dm.Rt [a0, a1, a2, a3, a4, a5] := q1
    have e1 := hzE.trans (Dm.op_1.2 hN); have e2 := hoE.trans (Dm.op_1.2 hN); have e3 := hsE.trans (Dm.op_1.2 hN); have e4 := hvE.trans (Dm.op_1.2 fun h => hN h.2)
    refine nm (((decide (zE = 1)) && (decide (oE = 1))) && (decide (sE = 1)) : Bool) fun p1 hp1 => ?_
    refine V.go [.k (bv true),
      .k (bv true),
      .k (iv zE),
      .k (bv (decide (zE = 1))),
      .k (bv (decide (zE = 1))),
      .k (bv (decide (zE = 1))),
      .k (iv oE),
      .k (bv (decide (oE = 1))),
      .and g0 false (decide (zE = 1)) (decide (oE = 1)),
      .k (bv ((decide (zE = 1)) && (decide (oE = 1)))),
      .k (iv sE),
      .k (bv (decide (sE = 1))),
      .andn g0 false ((decide (zE = 1)) && (decide (oE = 1))) (decide (sE = 1)) p1 hp1,
      .k (bv p1),
      .k (iv vE),
      .k (bv (decide (vE = 1))),
      .and g0 false p1 (decide (vE = 1)),
      .k (bv (p1 && (decide (vE = 1))))] (fun _ _ => by kernel_rfl) fun _ _ G8 => ?_
    intro S8 t8
    have e0 : (p1 && (decide (vE = 1))) = true := by
      refine (iAT (iN hp1 (iAT (iAT iDT iDT) iDT)) iDT).2 ?_
      omega
    exact V.ret [0] [] [] [] [] [] (bv (p1 && (decide (vE = 1)))) (fun _ _ => by kernel_rfl) (fun _ _ => (Eq.trans (by kernel_rfl) (cong1 (fun (x0 : Bool) => (bv x0 : Value)) e0)).trans (by kernel_rfl)) (fun _ _ => trivial)
  · skip
    have hR : Dm.Rt [a0, a1, a2, a3, a4, a5] := (by first | exact q2 | exact Decidable.not_not.1 q2)
    have hR6 := Dm.Rt6.1 hR
    have yz := Dm.op_y (p := (Dm.Rt [a0, a1, a2, a3, a4, a5])) (l := [a0 * (0 : Int), a1 * (0 : Int), a2 * (0 : Int), a3 * (0 : Int), a4 * (0 : Int), a5 * (0 : Int)]) hR (Dm.Rt6.2 (by omega))
    have zv0 : z0 = _ := hz0.trans (yz.2 0)
    have zv1 : z1 = _ := hz1.trans (yz.2 1)
    have zv2 : z2 = _ := hz2.trans (yz.2 2)
    have zv3 : z3 = _ := hz3.trans (yz.2 3)
    have zv4 : z4 = _ := hz4.trans (yz.2 4)
    have zv5 : z5 = _ := hz5.trans (yz.2 5)
    have zvE := hzE.trans yz.1
    replace zv0 : z0 = a0 * (0 : Int) := zv0
    replace zv1 : z1 = a1 * (0 : Int) := zv1
    replace zv2 : z2 = a2 * (0 : Int) := zv2
    replace zv3 : z3 = a3 * (0 : Int) := zv3
    replace zv4 : z4 = a4 * (0 : Int) := zv4
    replace zv5 : z5 = a5 * (0 : Int) := zv5
    have yo := Dm.op_y (p := (Dm.Rt [a0, a1, a2, a3, a4, a5])) (l := [a0 * (1 : Int), a1 * (1 : Int), a2 * (1 : Int), a3 * (1 : Int), a4 * (1 : Int), a5 * (1 : Int)]) hR (Dm.Rt6.2 (by omega))
    have ov0 : o0 = _ := ho0.trans (yo.2 0)
    have ov1 : o1 = _ := ho1.trans (yo.2 1)
    have ov2 : o2 = _ := ho2.trans (yo.2 2)
    have ov3 : o3 = _ := ho3.trans (yo.2 3)
    have ov4 : o4 = _ := ho4.trans (yo.2 4)
    have ov5 : o5 = _ := ho5.trans (yo.2 5)
    have ovE := hoE.trans yo.1
    replace ov0 : o0 = a0 * (1 : Int) := ov0
    replace ov1 : o1 = a1 * (1 : Int) := ov1
    replace ov2 : o2 = a2 * (1 : Int) := ov2
    replace ov3 : o3 = a3 * (1 : Int) := ov3
    replace ov4 : o4 = a4 * (1 : Int) := ov4
    replace ov5 : o5 = a5 * (1 : Int) := ov5
    have ys := Dm.op_y (p := (Dm.Rt [a0, a1, a2, a3, a4, a5])) (l := [a0 * (-1 : Int), a1 * (-1 : Int), a2 * (-1 : Int), a3 * (-1 : Int), a4 * (-1 : Int), a5 * (-1 : Int)]) hR (Dm.Rt6.2 (by omega))
    have sv0 : s0 = _ := hs0.trans (ys.2 0)
    have sv1 : s1 = _ := hs1.trans (ys.2 1)
    have sv2 : s2 = _ := hs2.trans (ys.2 2)
    have sv3 : s3 = _ := hs3.trans (ys.2 3)
    have sv4 : s4 = _ := hs4.trans (ys.2 4)
    have sv5 : s5 = _ := hs5.trans (ys.2 5)
    have svE := hsE.trans ys.1
    replace sv0 : s0 = a0 * (-1 : Int) := sv0
    replace sv1 : s1 = a1 * (-1 : Int) := sv1
    replace sv2 : s2 = a2 * (-1 : Int) := sv2
    replace sv3 : s3 = a3 * (-1 : Int) := sv3
    replace sv4 : s4 = a4 * (-1 : Int) := sv4
    replace sv5 : s5 = a5 * (-1 : Int) := sv5
    have yv := Dm.op_y (p := (Dm.Rt [(0 : Int), (0 : Int), (0 : Int), (0 : Int), (0 : Int), (0 : Int)] ∧ Dm.Rt [a0, a1, a2, a3, a4, a5])) (l := [(0 : Int) - a0, (0 : Int) - a1, (0 : Int) - a2, (0 : Int) - a3, (0 : Int) - a4, (0 : Int) - a5]) ⟨Dm.rt_zero, hR⟩ (Dm.Rt6.2 (by omega))
    have vv0 : v0 = _ := hv0.trans (yv.2 0)
    have vv1 : v1 = _ := hv1.trans (yv.2 1)
    have vv2 : v2 = _ := hv2.trans (yv.2 2)
    have vv3 : v3 = _ := hv3.trans (yv.2 3)
    have vv4 : v4 = _ := hv4.trans (yv.2 4)
    have vv5 : v5 = _ := hv5.trans (yv.2 5)
    have vvE := hvE.trans yv.1
    replace vv0 : v0 = (0 : Int) - a0 := vv0
    replace vv1 : v1 = (0 : Int) - a1 := vv1
    replace vv2 : v2 = (0 : Int) - a2 := vv2
    replace vv3 : v3 = (0 : Int) - a3 := vv3
    replace vv4 : v4 = (0 : Int) - a4 := vv4
    replace vv5 : v5 = (0 : Int) - a5 := vv5
    refine nm (((!(decide (zE = 0))) || (!(decide (oE = 0)))) || (!(decide (sE = 0))) : Bool) fun p2 hp2 => ?_
    refine nm ((p2 || (!(decide (vE = 0)))) || (!(decide (z0 = 0 ∧ z1 = 0 ∧ z2 = 0 ∧ z3 = 0 ∧ z4 = 0 ∧ z5 = 0))) : Bool) fun p3 hp3 => ?_
    refine nm (p3 || (!(decide (o0 = a0 ∧ o1 = a1 ∧ o2 = a2 ∧ o3 = a3 ∧ o4 = a4 ∧ o5 = a5))) : Bool) fun p4 hp4 => ?_
    refine nm (p4 || (!(decide (s0 = v0 ∧ s1 = v1 ∧ s2 = v2 ∧ s3 = v3 ∧ s4 = v4 ∧ s5 = v5))) : Bool) fun p5 hp5 => ?_
    refine V.go [.k (iv zE),
      .k (bv (!(decide (zE = 0)))),
      .k (bv (!(decide (zE = 0)))),
      .k (iv oE),
      .k (bv (!(decide (oE = 0)))),
      .or g0 false (!(decide (zE = 0))) (!(decide (oE = 0))),
      .k (bv ((!(decide (zE = 0))) || (!(decide (oE = 0))))),
      .k (iv sE),
      .k (bv (!(decide (sE = 0)))),
      .orn g0 false ((!(decide (zE = 0))) || (!(decide (oE = 0)))) (!(decide (sE = 0))) p2 hp2,
      .k (bv p2),
      .k (iv vE),
      .k (bv (!(decide (vE = 0)))),
      .or g0 false p2 (!(decide (vE = 0))),
      .k (bv (p2 || (!(decide (vE = 0))))),
      .ld 1 0 true (fun _ => [iv z0, iv z1, iv z2, iv z3, iv z4, iv z5]),
      .k (.agg #[iv 0, iv 0, iv 0, iv 0, iv 0, iv 0]),
      .aeq true 23 #[iv z0, iv z1, iv z2, iv z3, iv z4, iv z5] #[iv 0, iv 0, iv 0, iv 0, iv 0, iv 0] _ fun w => dim_equal w z0 z1 z2 z3 z4 z5 0 0 0 0 0 0,
      .orn g0 false (p2 || (!(decide (vE = 0)))) (!(decide (z0 = 0 ∧ z1 = 0 ∧ z2 = 0 ∧ z3 = 0 ∧ z4 = 0 ∧ z5 = 0))) p3 hp3,
      .k (bv p3),
      .ld 2 0 true (fun _ => [iv o0, iv o1, iv o2, iv o3, iv o4, iv o5]),
      .ld 0 0 true (fun _ => [iv a0, iv a1, iv a2, iv a3, iv a4, iv a5]),
      .aeq true 23 #[iv o0, iv o1, iv o2, iv o3, iv o4, iv o5] #[iv a0, iv a1, iv a2, iv a3, iv a4, iv a5] _ fun w => dim_equal w o0 o1 o2 o3 o4 o5 a0 a1 a2 a3 a4 a5,
      .orn g0 false p3 (!(decide (o0 = a0 ∧ o1 = a1 ∧ o2 = a2 ∧ o3 = a3 ∧ o4 = a4 ∧ o5 = a5))) p4 hp4,
      .k (bv p4),
      .ld 3 0 true (fun _ => [iv s0, iv s1, iv s2, iv s3, iv s4, iv s5]),
      .ld 4 0 true (fun _ => [iv v0, iv v1, iv v2, iv v3, iv v4, iv v5]),
      .aeq true 23 #[iv s0, iv s1, iv s2, iv s3, iv s4, iv s5] #[iv v0, iv v1, iv v2, iv v3, iv v4, iv v5] _ fun w => dim_equal w s0 s1 s2 s3 s4 s5 v0 v1 v2 v3 v4 v5,
      .orn g0 false p4 (!(decide (s0 = v0 ∧ s1 = v1 ∧ s2 = v2 ∧ s3 = v3 ∧ s4 = v4 ∧ s5 = v5))) p5 hp5] (fun _ _ => by kernel_rfl) fun _ _ G9 => ?_
    intro S9 t9
    refine V.cond (b := p5) (iN hp5 (iOT (iN hp4 (iOT (iN hp3 (iOT (iOT (iN hp2 (iOT (iOT (iNT iDF) (iNT iDF)) (iNT iDF))) (iNT iDF)) (iNT iDF))) (iNT iDF))) (iNT iDF))) (iN hp5 (iOF (iN hp4 (iOF (iN hp3 (iOF (iOF (iN hp2 (iOF (iOF (iNF iDT) (iNF iDT)) (iNF iDT))) (iNF iDT)) (iNF iDT))) (iNF iDT))) (iNF iDT))) (by kernel_rfl) (fun q3 => ?_) (fun q4 => ?_)
    · skip
      exfalso; omega
    · skip
      refine nm (Dm.opV (Dm.Rt [a0, a1, a2, a3, a4, a5]) [a0 * n, a1 * n, a2 * n, a3 * n, a4 * n, a5 * n] 0 : Int) fun x0 hx0 => ?_
      refine nm (Dm.opV (Dm.Rt [a0, a1, a2, a3, a4, a5]) [a0 * n, a1 * n, a2 * n, a3 * n, a4 * n, a5 * n] 1 : Int) fun x1 hx1 => ?_
      refine nm (Dm.opV (Dm.Rt [a0, a1, a2, a3, a4, a5]) [a0 * n, a1 * n, a2 * n, a3 * n, a4 * n, a5 * n] 2 : Int) fun x2 hx2 => ?_
      refine nm (Dm.opV (Dm.Rt [a0, a1, a2, a3, a4, a5]) [a0 * n, a1 * n, a2 * n, a3 * n, a4 * n, a5 * n] 3 : Int) fun x3 hx3 => ?_
      refine nm (Dm.opV (Dm.Rt [a0, a1, a2, a3, a4, a5]) [a0 * n, a1 * n, a2 * n, a3 * n, a4 * n, a5 * n] 4 : Int) fun x4 hx4 => ?_
      refine nm (Dm.opV (Dm.Rt [a0, a1, a2, a3, a4, a5]) [a0 * n, a1 * n, a2 * n, a3 * n, a4 * n, a5 * n] 5 : Int) fun x5 hx5 => ?_
      refine nm (Dm.opE (Dm.Rt [a0, a1, a2, a3, a4, a5]) [a0 * n, a1 * n, a2 * n, a3 * n, a4 * n, a5 * n] : Int) fun xE hxE => ?_
      refine V.go [.ld 0 0 true (fun _ => [iv a0, iv a1, iv a2, iv a3, iv a4, iv a5]),
        .k (.int .i8 n),
        .ek g0 .i64 n n (fun _ => by rw [IntKind.wrap_i64]; omega),
        .cp g0 3 12 [] (fun _ G => pow_ctv2 a0 a1 a2 a3 a4 a5 n x0 x1 x2 x3 x4 x5 xE hx0.symm hx1.symm hx2.symm hx3.symm hx4.symm hx5.symm hxE.symm),
        .k (.tuple #[.agg #[iv x0, iv x1, iv x2, iv x3, iv x4, iv x5], iv xE]),
        .k (.agg #[iv x0, iv x1, iv x2, iv x3, iv x4, iv x5]),
        .k (iv xE),
        .nb 7 5 (fun b => pp b 0) 23 (fun _ => #[iv 0, iv 0, iv 0, iv 0, iv 0, iv 0]),
        .st 5 (fun G => .blk ((G 7).b) #[iv x0, iv x1, iv x2, iv x3, iv x4, iv x5] 23),
        .k (iv xE)] (fun _ _ => by kernel_rfl) fun _ _ G10 => ?_
      intro S10 t10
      refine nm (Dm.opV (Dm.Rt [a0, a1, a2, a3, a4, a5]) [a0 * m, a1 * m, a2 * m, a3 * m, a4 * m, a5 * m] 0 : Int) fun y0 hy0 => ?_
      refine nm (Dm.opV (Dm.Rt [a0, a1, a2, a3, a4, a5]) [a0 * m, a1 * m, a2 * m, a3 * m, a4 * m, a5 * m] 1 : Int) fun y1 hy1 => ?_
      refine nm (Dm.opV (Dm.Rt [a0, a1, a2, a3, a4, a5]) [a0 * m, a1 * m, a2 * m, a3 * m, a4 * m, a5 * m] 2 : Int) fun y2 hy2 => ?_
      refine nm (Dm.opV (Dm.Rt [a0, a1, a2, a3, a4, a5]) [a0 * m, a1 * m, a2 * m, a3 * m, a4 * m, a5 * m] 3 : Int) fun y3 hy3 => ?_
      refine nm (Dm.opV (Dm.Rt [a0, a1, a2, a3, a4, a5]) [a0 * m, a1 * m, a2 * m, a3 * m, a4 * m, a5 * m] 4 : Int) fun y4 hy4 => ?_
      refine nm (Dm.opV (Dm.Rt [a0, a1, a2, a3, a4, a5]) [a0 * m, a1 * m, a2 * m, a3 * m, a4 * m, a5 * m] 5 : Int) fun y5 hy5 => ?_
      refine nm (Dm.opE (Dm.Rt [a0, a1, a2, a3, a4, a5]) [a0 * m, a1 * m, a2 * m, a3 * m, a4 * m, a5 * m] : Int) fun yE hyE => ?_
      refine V.go [.ld 0 0 true (fun _ => [iv a0, iv a1, iv a2, iv a3, iv a4, iv a5]),
        .k (.int .i8 m),
        .ek g0 .i64 m m (fun _ => by rw [IntKind.wrap_i64]; omega),
        .cp g0 3 12 [] (fun _ G => pow_ctv2 a0 a1 a2 a3 a4 a5 m y0 y1 y2 y3 y4 y5 yE hy0.symm hy1.symm hy2.symm hy3.symm hy4.symm hy5.symm hyE.symm),
        .k (.tuple #[.agg #[iv y0, iv y1, iv y2, iv y3, iv y4, iv y5], iv yE]),
        .k (.agg #[iv y0, iv y1, iv y2, iv y3, iv y4, iv y5]),
        .k (iv yE),
        .nb 7 6 (fun b => pp b 0) 23 (fun _ => #[iv 0, iv 0, iv 0, iv 0, iv 0, iv 0]),
        .st 6 (fun G => .blk ((G 7).b) #[iv y0, iv y1, iv y2, iv y3, iv y4, iv y5] 23),
        .k (iv yE)] (fun _ _ => by kernel_rfl) fun _ _ G11 => ?_
      intro S11 t11
      refine nm (Dm.opV (Dm.Rt [a0, a1, a2, a3, a4, a5]) [a0 * (n + m), a1 * (n + m), a2 * (n + m), a3 * (n + m), a4 * (n + m), a5 * (n + m)] 0 : Int) fun u0 hu0 => ?_
      refine nm (Dm.opV (Dm.Rt [a0, a1, a2, a3, a4, a5]) [a0 * (n + m), a1 * (n + m), a2 * (n + m), a3 * (n + m), a4 * (n + m), a5 * (n + m)] 1 : Int) fun u1 hu1 => ?_
      refine nm (Dm.opV (Dm.Rt [a0, a1, a2, a3, a4, a5]) [a0 * (n + m), a1 * (n + m), a2 * (n + m), a3 * (n + m), a4 * (n + m), a5 * (n + m)] 2 : Int) fun u2 hu2 => ?_
      refine nm (Dm.opV (Dm.Rt [a0, a1, a2, a3, a4, a5]) [a0 * (n + m), a1 * (n + m), a2 * (n + m), a3 * (n + m), a4 * (n + m), a5 * (n + m)] 3 : Int) fun u3 hu3 => ?_
      refine nm (Dm.opV (Dm.Rt [a0, a1, a2, a3, a4, a5]) [a0 * (n + m), a1 * (n + m), a2 * (n + m), a3 * (n + m), a4 * (n + m), a5 * (n + m)] 4 : Int) fun u4 hu4 => ?_
      refine nm (Dm.opV (Dm.Rt [a0, a1, a2, a3, a4, a5]) [a0 * (n + m), a1 * (n + m), a2 * (n + m), a3 * (n + m), a4 * (n + m), a5 * (n + m)] 5 : Int) fun u5 hu5 => ?_
      refine nm (Dm.opE (Dm.Rt [a0, a1, a2, a3, a4, a5]) [a0 * (n + m), a1 * (n + m), a2 * (n + m), a3 * (n + m), a4 * (n + m), a5 * (n + m)] : Int) fun uE huE => ?_
      refine V.go [.ld 0 0 true (fun _ => [iv a0, iv a1, iv a2, iv a3, iv a4, iv a5]),
        .k (.int .i8 n),
        .ek g0 .i64 n n (fun _ => by rw [IntKind.wrap_i64]; omega),
        .k (.int .i8 m),
        .ek g0 .i64 m m (fun _ => by rw [IntKind.wrap_i64]; omega),
        .a (n + m) (by omega) (by omega),
        .cp g0 6 12 [] (fun _ G => pow_ctv2 a0 a1 a2 a3 a4 a5 (n + m) u0 u1 u2 u3 u4 u5 uE hu0.symm hu1.symm hu2.symm hu3.symm hu4.symm hu5.symm huE.symm),
        .k (.tuple #[.agg #[iv u0, iv u1, iv u2, iv u3, iv u4, iv u5], iv uE]),
        .k (.agg #[iv u0, iv u1, iv u2, iv u3, iv u4, iv u5]),
        .k (iv uE),
        .nb 10 7 (fun b => pp b 0) 23 (fun _ => #[iv 0, iv 0, iv 0, iv 0, iv 0, iv 0]),
        .st 7 (fun G => .blk ((G 10).b) #[iv u0, iv u1, iv u2, iv u3, iv u4, iv u5] 23),
        .k (iv uE)] (fun _ _ => by kernel_rfl) fun _ _ G12 => ?_
      intro S12 t12
      refine nm (Dm.opV (Dm.Rt [x0, x1, x2, x3, x4, x5] ∧ Dm.Rt [y0, y1, y2, y3, y4, y5]) [x0 + y0, x1 + y1, x2 + y2, x3 + y3, x4 + y4, x5 + y5] 0 : Int) fun xy0 hxy0 => ?_
      refine nm (Dm.opV (Dm.Rt [x0, x1, x2, x3, x4, x5] ∧ Dm.Rt [y0, y1, y2, y3, y4, y5]) [x0 + y0, x1 + y1, x2 + y2, x3 + y3, x4 + y4, x5 + y5] 1 : Int) fun xy1 hxy1 => ?_
      refine nm (Dm.opV (Dm.Rt [x0, x1, x2, x3, x4, x5] ∧ Dm.Rt [y0, y1, y2, y3, y4, y5]) [x0 + y0, x1 + y1, x2 + y2, x3 + y3, x4 + y4, x5 + y5] 2 : Int) fun xy2 hxy2 => ?_
      refine nm (Dm.opV (Dm.Rt [x0, x1, x2, x3, x4, x5] ∧ Dm.Rt [y0, y1, y2, y3, y4, y5]) [x0 + y0, x1 + y1, x2 + y2, x3 + y3, x4 + y4, x5 + y5] 3 : Int) fun xy3 hxy3 => ?_
      refine nm (Dm.opV (Dm.Rt [x0, x1, x2, x3, x4, x5] ∧ Dm.Rt [y0, y1, y2, y3, y4, y5]) [x0 + y0, x1 + y1, x2 + y2, x3 + y3, x4 + y4, x5 + y5] 4 : Int) fun xy4 hxy4 => ?_
      refine nm (Dm.opV (Dm.Rt [x0, x1, x2, x3, x4, x5] ∧ Dm.Rt [y0, y1, y2, y3, y4, y5]) [x0 + y0, x1 + y1, x2 + y2, x3 + y3, x4 + y4, x5 + y5] 5 : Int) fun xy5 hxy5 => ?_
      refine nm (Dm.opE (Dm.Rt [x0, x1, x2, x3, x4, x5] ∧ Dm.Rt [y0, y1, y2, y3, y4, y5]) [x0 + y0, x1 + y1, x2 + y2, x3 + y3, x4 + y4, x5 + y5] : Int) fun xyE hxyE => ?_
      refine V.go [.ld 5 0 true (fun _ => [iv x0, iv x1, iv x2, iv x3, iv x4, iv x5]),
        .ld 6 0 true (fun _ => [iv y0, iv y1, iv y2, iv y3, iv y4, iv y5]),
        .cp g0 2 10 [] (fun _ G => mul_ctv x0 x1 x2 x3 x4 x5 y0 y1 y2 y3 y4 y5 xy0 xy1 xy2 xy3 xy4 xy5 xyE hxy0.symm hxy1.symm hxy2.symm hxy3.symm hxy4.symm hxy5.symm hxyE.symm),
        .k (.tuple #[.agg #[iv xy0, iv xy1, iv xy2, iv xy3, iv xy4, iv xy5], iv xyE]),
        .k (.agg #[iv xy0, iv xy1, iv xy2, iv xy3, iv xy4, iv xy5]),
        .k (iv xyE),
        .nb 6 8 (fun b => pp b 0) 23 (fun _ => #[iv 0, iv 0, iv 0, iv 0, iv 0, iv 0]),
        .st 8 (fun G => .blk ((G 6).b) #[iv xy0, iv xy1, iv xy2, iv xy3, iv xy4, iv xy5] 23),
        .k (iv xyE)] (fun _ _ => by kernel_rfl) fun _ _ G13 => ?_
      intro S13 t13
      have rx : Dm.Rt [x0, x1, x2, x3, x4, x5] := by rw [hx0, hx1, hx2, hx3, hx4, hx5]; exact Dm.op_rt rfl
      have ry : Dm.Rt [y0, y1, y2, y3, y4, y5] := by rw [hy0, hy1, hy2, hy3, hy4, hy5]; exact Dm.op_rt rfl
      refine nm ((!(decide (uE = xyE))) || (!(decide (u0 = xy0 ∧ u1 = xy1 ∧ u2 = xy2 ∧ u3 = xy3 ∧ u4 = xy4 ∧ u5 = xy5))) : Bool) fun p6 hp6 => ?_
      refine nm (((decide (xE = 0)) && (decide (yE = 0))) && p6 : Bool) fun p7 hp7 => ?_
      refine V.go [.k (iv xE),
        .k (bv (decide (xE = 0))),
        .k (bv (decide (xE = 0))),
        .k (iv yE),
        .k (bv (decide (yE = 0))),
        .and g0 false (decide (xE = 0)) (decide (yE = 0)),
        .k (bv ((decide (xE = 0)) && (decide (yE = 0)))),
        .k (iv uE),
        .k (iv xyE),
        .k (bv (!(decide (uE = xyE)))),
        .k (bv (!(decide (uE = xyE)))),
        .ld 7 0 true (fun _ => [iv u0, iv u1, iv u2, iv u3, iv u4, iv u5]),
        .ld 8 0 true (fun _ => [iv xy0, iv xy1, iv xy2, iv xy3, iv xy4, iv xy5]),
        .aeq true 23 #[iv u0, iv u1, iv u2, iv u3, iv u4, iv u5] #[iv xy0, iv xy1, iv xy2, iv xy3, iv xy4, iv xy5] _ fun w => dim_equal w u0 u1 u2 u3 u4 u5 xy0 xy1 xy2 xy3 xy4 xy5,
        .orn (gT (b := (decide (xE = 0)) && (decide (yE = 0))) (iAT iDT iDT)) false (!(decide (uE = xyE))) (!(decide (u0 = xy0 ∧ u1 = xy1 ∧ u2 = xy2 ∧ u3 = xy3 ∧ u4 = xy4 ∧ u5 = xy5))) p6 hp6,
        .andn g0 false ((decide (xE = 0)) && (decide (yE = 0))) p6 p7 hp7] (fun _ _ => by kernel_rfl) fun _ _ G14 => ?_
      intro S14 t14
      refine V.cond (b := p7) (iN hp7 (iAT (iAT iDT iDT) (iN hp6 (iOT (iNT iDF) (iNT iDF))))) (iN hp7 (iAF (iAF iDF iDF) (iN hp6 (iOF (iNF iDT) (iNF iDT))))) (by kernel_rfl) (fun q5 => ?_) (fun q6 => ?_)
      · skip
        exfalso
        obtain ⟨⟨hi0, hj0⟩, hbad⟩ := q5
        have ox := Dm.op_ok (p := (Dm.Rt [a0, a1, a2, a3, a4, a5])) (l := [a0 * n, a1 * n, a2 * n, a3 * n, a4 * n, a5 * n]) (by rw [← hxE]; exact hi0)
        have oy := Dm.op_ok (p := (Dm.Rt [a0, a1, a2, a3, a4, a5])) (l := [a0 * m, a1 * m, a2 * m, a3 * m, a4 * m, a5 * m]) (by rw [← hyE]; exact hj0)
        have yx := Dm.op_y (p := (Dm.Rt [a0, a1, a2, a3, a4, a5])) (l := [a0 * n, a1 * n, a2 * n, a3 * n, a4 * n, a5 * n]) hR ox.2
        have xv0 : x0 = _ := hx0.trans (yx.2 0)
        have xv1 : x1 = _ := hx1.trans (yx.2 1)
        have xv2 : x2 = _ := hx2.trans (yx.2 2)
        have xv3 : x3 = _ := hx3.trans (yx.2 3)
        have xv4 : x4 = _ := hx4.trans (yx.2 4)
        have xv5 : x5 = _ := hx5.trans (yx.2 5)
        replace xv0 : x0 = a0 * n := xv0
        replace xv1 : x1 = a1 * n := xv1
        replace xv2 : x2 = a2 * n := xv2
        replace xv3 : x3 = a3 * n := xv3
        replace xv4 : x4 = a4 * n := xv4
        replace xv5 : x5 = a5 * n := xv5
        have yy := Dm.op_y (p := (Dm.Rt [a0, a1, a2, a3, a4, a5])) (l := [a0 * m, a1 * m, a2 * m, a3 * m, a4 * m, a5 * m]) hR oy.2
        have yv0 : y0 = _ := hy0.trans (yy.2 0)
        have yv1 : y1 = _ := hy1.trans (yy.2 1)
        have yv2 : y2 = _ := hy2.trans (yy.2 2)
        have yv3 : y3 = _ := hy3.trans (yy.2 3)
        have yv4 : y4 = _ := hy4.trans (yy.2 4)
        have yv5 : y5 = _ := hy5.trans (yy.2 5)
        replace yv0 : y0 = a0 * m := yv0
        replace yv1 : y1 = a1 * m := yv1
        replace yv2 : y2 = a2 * m := yv2
        replace yv3 : y3 = a3 * m := yv3
        replace yv4 : y4 = a4 * m := yv4
        replace yv5 : y5 = a5 * m := yv5
        have quxy := Dm.op_eq (p := (Dm.Rt [a0, a1, a2, a3, a4, a5])) (q := (Dm.Rt [x0, x1, x2, x3, x4, x5] ∧ Dm.Rt [y0, y1, y2, y3, y4, y5])) (l := [a0 * (n + m), a1 * (n + m), a2 * (n + m), a3 * (n + m), a4 * (n + m), a5 * (n + m)]) (m := [x0 + y0, x1 + y1, x2 + y2, x3 + y3, x4 + y4, x5 + y5]) ⟨fun _ => ⟨rx, ry⟩, fun _ => hR⟩ (by simp only [xv0, xv1, xv2, xv3, xv4, xv5, yv0, yv1, yv2, yv3, yv4, yv5, Int.mul_add])
        have quxy0 : u0 = xy0 := by rw [hu0, hxy0]; exact quxy.2 0
        have quxy1 : u1 = xy1 := by rw [hu1, hxy1]; exact quxy.2 1
        have quxy2 : u2 = xy2 := by rw [hu2, hxy2]; exact quxy.2 2
        have quxy3 : u3 = xy3 := by rw [hu3, hxy3]; exact quxy.2 3
        have quxy4 : u4 = xy4 := by rw [hu4, hxy4]; exact quxy.2 4
        have quxy5 : u5 = xy5 := by rw [hu5, hxy5]; exact quxy.2 5
        have quxyE : uE = xyE := by rw [huE, hxyE]; exact quxy.1
        rcases hbad with h | h
        · exact h quxyE
        · exact h ⟨quxy0, quxy1, quxy2, quxy3, quxy4, quxy5⟩
      · skip
        refine nm (n * m : Int) fun n1 hn1 => ?_
        refine nm (Dm.opV (Dm.Rt [a0, a1, a2, a3, a4, a5]) [a0 * n1, a1 * n1, a2 * n1, a3 * n1, a4 * n1, a5 * n1] 0 : Int) fun p0 hp0 => ?_
        refine nm (Dm.opV (Dm.Rt [a0, a1, a2, a3, a4, a5]) [a0 * n1, a1 * n1, a2 * n1, a3 * n1, a4 * n1, a5 * n1] 1 : Int) fun p1 hp1 => ?_
        refine nm (Dm.opV (Dm.Rt [a0, a1, a2, a3, a4, a5]) [a0 * n1, a1 * n1, a2 * n1, a3 * n1, a4 * n1, a5 * n1] 2 : Int) fun p2 hp2 => ?_
        refine nm (Dm.opV (Dm.Rt [a0, a1, a2, a3, a4, a5]) [a0 * n1, a1 * n1, a2 * n1, a3 * n1, a4 * n1, a5 * n1] 3 : Int) fun p3 hp3 => ?_
        refine nm (Dm.opV (Dm.Rt [a0, a1, a2, a3, a4, a5]) [a0 * n1, a1 * n1, a2 * n1, a3 * n1, a4 * n1, a5 * n1] 4 : Int) fun p4 hp4 => ?_
        refine nm (Dm.opV (Dm.Rt [a0, a1, a2, a3, a4, a5]) [a0 * n1, a1 * n1, a2 * n1, a3 * n1, a4 * n1, a5 * n1] 5 : Int) fun p5 hp5 => ?_
        refine nm (Dm.opE (Dm.Rt [a0, a1, a2, a3, a4, a5]) [a0 * n1, a1 * n1, a2 * n1, a3 * n1, a4 * n1, a5 * n1] : Int) fun pE hpE => ?_
        refine V.go [.ld 0 0 true (fun _ => [iv a0, iv a1, iv a2, iv a3, iv a4, iv a5]),
          .k (.int .i8 n),
          .ek g0 .i64 n n (fun _ => by rw [IntKind.wrap_i64]; omega),
          .k (.int .i8 m),
          .ek g0 .i64 m m (fun _ => by rw [IntKind.wrap_i64]; omega),
          .ar (n * m) n1 hn1 (Dm.mul8 hn hm hn1).1 (Dm.mul8 hn hm hn1).2,
          .cp g0 6 12 [] (fun _ G => pow_ctv2 a0 a1 a2 a3 a4 a5 n1 p0 p1 p2 p3 p4 p5 pE hp0.symm hp1.symm hp2.symm hp3.symm hp4.symm hp5.symm hpE.symm),
          .k (.tuple #[.agg #[iv p0, iv p1, iv p2, iv p3, iv p4, iv p5], iv pE]),
          .k (.agg #[iv p0, iv p1, iv p2, iv p3, iv p4, iv p5]),
          .k (iv pE),
          .nb 10 9 (fun b => pp b 0) 23 (fun _ => #[iv 0, iv 0, iv 0, iv 0, iv 0, iv 0]),
          .st 9 (fun G => .blk ((G 10).b) #[iv p0, iv p1, iv p2, iv p3, iv p4, iv p5] 23),
          .k (iv pE)] (fun _ _ => by kernel_rfl) fun _ _ G15 => ?_
        intro S15 t15
        refine nm (Dm.opV (Dm.Rt [x0, x1, x2, x3, x4, x5]) [x0 * m, x1 * m, x2 * m, x3 * m, x4 * m, x5 * m] 0 : Int) fun t0 ht0 => ?_
        refine nm (Dm.opV (Dm.Rt [x0, x1, x2, x3, x4, x5]) [x0 * m, x1 * m, x2 * m, x3 * m, x4 * m, x5 * m] 1 : Int) fun t1 ht1 => ?_
        refine nm (Dm.opV (Dm.Rt [x0, x1, x2, x3, x4, x5]) [x0 * m, x1 * m, x2 * m, x3 * m, x4 * m, x5 * m] 2 : Int) fun t2 ht2 => ?_
        refine nm (Dm.opV (Dm.Rt [x0, x1, x2, x3, x4, x5]) [x0 * m, x1 * m, x2 * m, x3 * m, x4 * m, x5 * m] 3 : Int) fun t3 ht3 => ?_
        refine nm (Dm.opV (Dm.Rt [x0, x1, x2, x3, x4, x5]) [x0 * m, x1 * m, x2 * m, x3 * m, x4 * m, x5 * m] 4 : Int) fun t4 ht4 => ?_
        refine nm (Dm.opV (Dm.Rt [x0, x1, x2, x3, x4, x5]) [x0 * m, x1 * m, x2 * m, x3 * m, x4 * m, x5 * m] 5 : Int) fun t5 ht5 => ?_
        refine nm (Dm.opE (Dm.Rt [x0, x1, x2, x3, x4, x5]) [x0 * m, x1 * m, x2 * m, x3 * m, x4 * m, x5 * m] : Int) fun tE htE => ?_
        refine V.go [.ld 5 0 true (fun _ => [iv x0, iv x1, iv x2, iv x3, iv x4, iv x5]),
          .k (.int .i8 m),
          .ek g0 .i64 m m (fun _ => by rw [IntKind.wrap_i64]; omega),
          .cp g0 3 12 [] (fun _ G => pow_ctv2 x0 x1 x2 x3 x4 x5 m t0 t1 t2 t3 t4 t5 tE ht0.symm ht1.symm ht2.symm ht3.symm ht4.symm ht5.symm htE.symm),
          .k (.tuple #[.agg #[iv t0, iv t1, iv t2, iv t3, iv t4, iv t5], iv tE]),
          .k (.agg #[iv t0, iv t1, iv t2, iv t3, iv t4, iv t5]),
          .k (iv tE),
          .nb 7 10 (fun b => pp b 0) 23 (fun _ => #[iv 0, iv 0, iv 0, iv 0, iv 0, iv 0]),
          .st 10 (fun G => .blk ((G 7).b) #[iv t0, iv t1, iv t2, iv t3, iv t4, iv t5] 23),
          .k (iv tE)] (fun _ _ => by kernel_rfl) fun _ _ G16 => ?_
        intro S16 t16
        refine nm ((decide (pE = tE)) && (decide (p0 = t0 ∧ p1 = t1 ∧ p2 = t2 ∧ p3 = t3 ∧ p4 = t4 ∧ p5 = t5)) : Bool) fun p8 hp8 => ?_
        refine V.go [.k (bv true),
          .k (bv true),
          .k (iv xE),
          .k (bv (!(decide (xE = 0)))),
          .k (bv (!(decide (xE = 0)))),
          .k (iv pE),
          .k (iv tE),
          .k (bv (decide (pE = tE))),
          .k (bv (decide (pE = tE))),
          .ld 9 0 true (fun _ => [iv p0, iv p1, iv p2, iv p3, iv p4, iv p5]),
          .ld 10 0 true (fun _ => [iv t0, iv t1, iv t2, iv t3, iv t4, iv t5]),
          .aeq false 23 #[iv p0, iv p1, iv p2, iv p3, iv p4, iv p5] #[iv t0, iv t1, iv t2, iv t3, iv t4, iv t5] _ fun w => dim_equal w p0 p1 p2 p3 p4 p5 t0 t1 t2 t3 t4 t5,
          .andn ((gT (b := true) iTT).F (b := !(decide (xE = 0))) (iNF iDT)) false (decide (pE = tE)) (decide (p0 = t0 ∧ p1 = t1 ∧ p2 = t2 ∧ p3 = t3 ∧ p4 = t4 ∧ p5 = t5)) p8 hp8,
          .or (gT (b := true) iTT) false (!(decide (xE = 0))) p8,
          .k (bv ((!(decide (xE = 0))) || p8)),
          .k (bv ((!(decide (xE = 0))) || p8))] (fun _ _ => by kernel_rfl) fun _ _ G17 => ?_
        intro S17 t17
        have e0 : ((!(decide (xE = 0))) || p8) = true := by
          refine (iOT (iNT iDF) (iN hp8 (iAT iDT iDT))).2 ?_
          by_cases hi0 : xE = 0
          · right
            have ox := Dm.op_ok (p := (Dm.Rt [a0, a1, a2, a3, a4, a5])) (l := [a0 * n, a1 * n, a2 * n, a3 * n, a4 * n, a5 * n]) (by rw [← hxE]; exact hi0)
            have yx := Dm.op_y (p := (Dm.Rt [a0, a1, a2, a3, a4, a5])) (l := [a0 * n, a1 * n, a2 * n, a3 * n, a4 * n, a5 * n]) hR ox.2
            have xv0 : x0 = _ := hx0.trans (yx.2 0)
            have xv1 : x1 = _ := hx1.trans (yx.2 1)
            have xv2 : x2 = _ := hx2.trans (yx.2 2)
            have xv3 : x3 = _ := hx3.trans (yx.2 3)
            have xv4 : x4 = _ := hx4.trans (yx.2 4)
            have xv5 : x5 = _ := hx5.trans (yx.2 5)
            replace xv0 : x0 = a0 * n := xv0
            replace xv1 : x1 = a1 * n := xv1
            replace xv2 : x2 = a2 * n := xv2
            replace xv3 : x3 = a3 * n := xv3
            replace xv4 : x4 = a4 * n := xv4
            replace xv5 : x5 = a5 * n := xv5
            have qpt := Dm.op_eq (p := (Dm.Rt [a0, a1, a2, a3, a4, a5])) (q := (Dm.Rt [x0, x1, x2, x3, x4, x5])) (l := [a0 * n1, a1 * n1, a2 * n1, a3 * n1, a4 * n1, a5 * n1]) (m := [x0 * m, x1 * m, x2 * m, x3 * m, x4 * m, x5 * m]) ⟨fun _ => rx, fun _ => hR⟩ (by simp only [xv0, xv1, xv2, xv3, xv4, xv5, hn1, Int.mul_assoc])
            have qpt0 : p0 = t0 := by rw [hp0, ht0]; exact qpt.2 0
            have qpt1 : p1 = t1 := by rw [hp1, ht1]; exact qpt.2 1
            have qpt2 : p2 = t2 := by rw [hp2, ht2]; exact qpt.2 2
            have qpt3 : p3 = t3 := by rw [hp3, ht3]; exact qpt.2 3
            have qpt4 : p4 = t4 := by rw [hp4, ht4]; exact qpt.2 4
            have qpt5 : p5 = t5 := by rw [hp5, ht5]; exact qpt.2 5
            have qptE : pE = tE := by rw [hpE, htE]; exact qpt.1
            exact ⟨qptE, qpt0, qpt1, qpt2, qpt3, qpt4, qpt5⟩
          · exact .inl hi0
        exact V.ret [0] [] [] [] [] [] (bv ((!(decide (xE = 0))) || p8)) (fun _ _ => by kernel_rfl) (fun _ _ => (Eq.trans (by kernel_rfl) (cong1 (fun (x0 : Bool) => (bv x0 : Value)) e0)).trans (by kernel_rfl)) (fun _ _ => trivial)

end Kb
