/- The law of reading back. -/
import Derived.Test.YtmoekalfmahljaaVf
import Derived.Test.YtmoekalfmahljaaDk
set_option linter.unusedVariables false
set_option linter.unusedSectionVars false
set_option linter.unusedSimpArgs false
namespace Kb
open Go Go.Proofs
set_option maxRecDepth 10000 in
theorem back_ct (a0 a1 a2 a3 a4 a5 : Int) (s : ByteArray) :
    Cp Try.prog 3 #[.agg #[iv a0, iv a1, iv a2, iv a3, iv a4, iv a5], tv s] [] (bv true) := by
  refine V.fn mo Try.func3 66 3 (by kernel_rfl) fun w H ε k0 => ?_
  clear k0
  refine V.go [.nb 0 0 (fun b => pp b 0) 23 (fun _ => #[iv a0, iv a1, iv a2, iv a3, iv a4, iv a5]),
    .k (bv false)] (fun _ _ => by kernel_rfl) fun _ _ G1 => ?_
  intro S1 t1
  refine V.go [.cp g0 0 6 [] (fun _ G => sane_ct ),
    .k (bv true)] (fun _ _ => by kernel_rfl) fun _ _ G2 => ?_
  intro S2 t2
  refine V.go [.k (tv s),
    .k (iv (s.size : Int)),
    .k (bv (decide (100 < (s.size : Int))))] (fun _ _ => by kernel_rfl) fun _ _ G3 => ?_
  intro S3 t3
  refine V.cond (b := decide (100 < (s.size : Int))) iDT iDF (by kernel_rfl) (fun q1 => ?_) (fun q2 => ?_)
  · skip
    refine V.go [.k (bv true),
      .k (bv true)] (fun _ _ => by kernel_rfl) fun _ _ G4 => ?_
    intro S4 t4
    exact V.ret [0] [] [] [] [] [] (bv true) (fun _ _ => by kernel_rfl) (fun _ _ => by kernel_rfl) (fun _ _ => trivial)
  · skip
    refine nm (Dm.text [a0, a1, a2, a3, a4, a5] : ByteArray) fun tt htt => ?_
    have hts : tt.size ≤ 72 := by rw [htt]; exact Dm.text_size _
    have hse : s.size ≤ 100 := by omega
    refine V.go [.ld 0 0 true (fun _ => [iv a0, iv a1, iv a2, iv a3, iv a4, iv a5]),
      .cp g0 1 7 [] (fun _ G => text_ctv a0 a1 a2 a3 a4 a5 tt htt.symm),
      .k (tv tt)] (fun _ _ => by kernel_rfl) fun _ _ G5 => ?_
    intro S5 t5
    refine nm (Dm.rdV tt 0 : Int) fun r0 hr0 => ?_
    refine nm (Dm.rdV tt 1 : Int) fun r1 hr1 => ?_
    refine nm (Dm.rdV tt 2 : Int) fun r2 hr2 => ?_
    refine nm (Dm.rdV tt 3 : Int) fun r3 hr3 => ?_
    refine nm (Dm.rdV tt 4 : Int) fun r4 hr4 => ?_
    refine nm (Dm.rdV tt 5 : Int) fun r5 hr5 => ?_
    refine nm (Dm.rdB tt : Bool) fun rB hrB => ?_
    refine V.go [.k (tv tt),
      .cp g0 1 8 [] (fun _ G => read_ctv tt r0 r1 r2 r3 r4 r5 rB (by omega) hr0.symm hr1.symm hr2.symm hr3.symm hr4.symm hr5.symm hrB.symm),
      .k (.tuple #[.agg #[iv r0, iv r1, iv r2, iv r3, iv r4, iv r5], bv rB]),
      .k (.agg #[iv r0, iv r1, iv r2, iv r3, iv r4, iv r5]),
      .k (bv rB),
      .nb 5 1 (fun b => pp b 0) 23 (fun _ => #[iv 0, iv 0, iv 0, iv 0, iv 0, iv 0]),
      .st 1 (fun G => .blk ((G 5).b) #[iv r0, iv r1, iv r2, iv r3, iv r4, iv r5] 23),
      .k (bv rB)] (fun _ _ => by kernel_rfl) fun _ _ G6 => ?_
    intro S6 t6
    refine nm ((!((decide (Dm.Rt [a0, a1, a2, a3, a4, a5])) == (!(decide (tt = ByteArray.empty))))) || (!(rB == (decide (Dm.Rt [a0, a1, a2, a3, a4, a5])))) : Bool) fun p1 hp1 => ?_
    refine nm (rB && (!(decide (r0 = a0 ∧ r1 = a1 ∧ r2 = a2 ∧ r3 = a3 ∧ r4 = a4 ∧ r5 = a5))) : Bool) fun p2 hp2 => ?_
    refine V.go [.ld 0 0 true (fun _ => [iv a0, iv a1, iv a2, iv a3, iv a4, iv a5]),
      .cp g0 1 9 [] (fun _ G => right_ct a0 a1 a2 a3 a4 a5),
      .k (tv tt),
      .sne tt ByteArray.empty,
      .k (bv (!((decide (Dm.Rt [a0, a1, a2, a3, a4, a5])) == (!(decide (tt = ByteArray.empty)))))),
      .k (bv (!((decide (Dm.Rt [a0, a1, a2, a3, a4, a5])) == (!(decide (tt = ByteArray.empty)))))),
      .k (bv rB),
      .ld 0 0 true (fun _ => [iv a0, iv a1, iv a2, iv a3, iv a4, iv a5]),
      .cp (gF (b := !((decide (Dm.Rt [a0, a1, a2, a3, a4, a5])) == (!(decide (tt = ByteArray.empty))))) (iNF (iQT iDT (iNT iDF)))) 8 9 [] (fun hg G => right_ct a0 a1 a2 a3 a4 a5),
      .k (bv (!(rB == (decide (Dm.Rt [a0, a1, a2, a3, a4, a5]))))),
      .orn g0 false (!((decide (Dm.Rt [a0, a1, a2, a3, a4, a5])) == (!(decide (tt = ByteArray.empty))))) (!(rB == (decide (Dm.Rt [a0, a1, a2, a3, a4, a5])))) p1 hp1,
      .k (bv p1),
      .k (bv rB),
      .k (bv rB),
      .ld 1 0 true (fun _ => [iv r0, iv r1, iv r2, iv r3, iv r4, iv r5]),
      .ld 0 0 true (fun _ => [iv a0, iv a1, iv a2, iv a3, iv a4, iv a5]),
      .aeq true 23 #[iv r0, iv r1, iv r2, iv r3, iv r4, iv r5] #[iv a0, iv a1, iv a2, iv a3, iv a4, iv a5] _ fun w => dim_equal w r0 r1 r2 r3 r4 r5 a0 a1 a2 a3 a4 a5,
      .andn (gF (b := p1) (iN hp1 (iOF (iNF (iQT iDT (iNT iDF))) (iNF (iQT Iff.rfl iDT))))) false rB (!(decide (r0 = a0 ∧ r1 = a1 ∧ r2 = a2 ∧ r3 = a3 ∧ r4 = a4 ∧ r5 = a5))) p2 hp2,
      .or g0 false p1 p2] (fun _ _ => by kernel_rfl) fun _ _ G7 => ?_
    intro S7 t7
    refine V.cond (b := p1 || p2) (iOT (iN hp1 (iOT (iNT (iQF iDT (iNT iDF))) (iNT (iQF Iff.rfl iDT)))) (iN hp2 (iAT Iff.rfl (iNT iDF)))) (iOF (iN hp1 (iOF (iNF (iQT iDT (iNT iDF))) (iNF (iQT Iff.rfl iDT)))) (iN hp2 (iAF Iff.rfl (iNF iDT)))) (by kernel_rfl) (fun q3 => ?_) (fun q4 => ?_)
    · skip
      exfalso
      by_cases hR : Dm.Rt [a0, a1, a2, a3, a4, a5]
      · obtain ⟨hb, hv⟩ := Dm.back_y hR rfl
        have hne := Dm.text_ne.2 hR
        rw [← htt] at hb hne hv
        rw [hb] at hrB
        have e0 : r0 = a0 := hr0.trans (hv 0); have e1 : r1 = a1 := hr1.trans (hv 1); have e2 : r2 = a2 := hr2.trans (hv 2); have e3 : r3 = a3 := hr3.trans (hv 3); have e4 : r4 = a4 := hr4.trans (hv 4); have e5 : r5 = a5 := hr5.trans (hv 5)
        rcases q3 with (h | h) | h
        · exact h ⟨fun _ => hne, fun _ => hR⟩
        · exact h ⟨fun _ => hR, fun _ => hrB⟩
        · exact h.2 ⟨e0, e1, e2, e3, e4, e5⟩
      · obtain ⟨he, hb⟩ := Dm.back_n hR
        rw [← htt] at he hb
        rw [hb] at hrB
        rcases q3 with (h | h) | h
        · exact h ⟨fun x => absurd x hR, fun x => absurd he x⟩
        · exact h ⟨fun x => (by rw [hrB] at x; cases x), fun x => absurd x hR⟩
        · rw [hrB] at h; cases h.1
    · skip
      refine nm (Dm.rdV s 0 : Int) fun z0 hz0 => ?_
      refine nm (Dm.rdV s 1 : Int) fun z1 hz1 => ?_
      refine nm (Dm.rdV s 2 : Int) fun z2 hz2 => ?_
      refine nm (Dm.rdV s 3 : Int) fun z3 hz3 => ?_
      refine nm (Dm.rdV s 4 : Int) fun z4 hz4 => ?_
      refine nm (Dm.rdV s 5 : Int) fun z5 hz5 => ?_
      refine nm (Dm.rdB s : Bool) fun zB hzB => ?_
      refine V.go [.k (tv s),
        .cp g0 1 8 [] (fun _ G => read_ctv s z0 z1 z2 z3 z4 z5 zB (by omega) hz0.symm hz1.symm hz2.symm hz3.symm hz4.symm hz5.symm hzB.symm),
        .k (.tuple #[.agg #[iv z0, iv z1, iv z2, iv z3, iv z4, iv z5], bv zB]),
        .k (.agg #[iv z0, iv z1, iv z2, iv z3, iv z4, iv z5]),
        .k (bv zB),
        .nb 5 2 (fun b => pp b 0) 23 (fun _ => #[iv 0, iv 0, iv 0, iv 0, iv 0, iv 0]),
        .st 2 (fun G => .blk ((G 5).b) #[iv z0, iv z1, iv z2, iv z3, iv z4, iv z5] 23),
        .k (bv zB)] (fun _ _ => by kernel_rfl) fun _ _ G8 => ?_
      intro S8 t8
      refine V.go [.k (bv zB),
        .k (bv (!zB))] (fun _ _ => by kernel_rfl) fun _ _ G9 => ?_
      intro S9 t9
      refine V.cond (b := !zB) (iNT Iff.rfl) (iNF Iff.rfl) (by kernel_rfl) (fun q5 => ?_) (fun q6 => ?_)
      · skip
        refine V.go [.k (bv true),
          .k (bv true),
          .ld 2 0 true (fun _ => [iv z0, iv z1, iv z2, iv z3, iv z4, iv z5]),
          .k (.agg #[iv 0, iv 0, iv 0, iv 0, iv 0, iv 0]),
          .aeq false 23 #[iv z0, iv z1, iv z2, iv z3, iv z4, iv z5] #[iv 0, iv 0, iv 0, iv 0, iv 0, iv 0] _ fun w => dim_equal w z0 z1 z2 z3 z4 z5 0 0 0 0 0 0,
          .k (bv (decide (z0 = 0 ∧ z1 = 0 ∧ z2 = 0 ∧ z3 = 0 ∧ z4 = 0 ∧ z5 = 0))),
          .k (bv (decide (z0 = 0 ∧ z1 = 0 ∧ z2 = 0 ∧ z3 = 0 ∧ z4 = 0 ∧ z5 = 0)))] (fun _ _ => by kernel_rfl) fun _ _ G10 => ?_
        intro S10 t10
        have e0 : (decide (z0 = 0 ∧ z1 = 0 ∧ z2 = 0 ∧ z3 = 0 ∧ z4 = 0 ∧ z5 = 0)) = true := by
          refine iDT.2 ?_
          have hn : ¬ Dm.rdB s = true := by rw [← hzB, q5]; exact Bool.false_ne_true
          have h6 := Dm.rd_n hn
          rw [← hz0, ← hz1, ← hz2, ← hz3, ← hz4, ← hz5] at h6
          exact h6
        exact V.ret [0] [] [] [] [] [] (bv (decide (z0 = 0 ∧ z1 = 0 ∧ z2 = 0 ∧ z3 = 0 ∧ z4 = 0 ∧ z5 = 0))) (fun _ _ => by kernel_rfl) (fun _ _ => (Eq.trans (by kernel_rfl) (cong1 (fun (x0 : Bool) => (bv x0 : Value)) e0)).trans (by kernel_rfl)) (fun _ _ => trivial)
      · skip
        refine nm (Dm.text [z0, z1, z2, z3, z4, z5] : ByteArray) fun uu huu => ?_
        refine nm ((decide (Dm.Rt [z0, z1, z2, z3, z4, z5])) && (decide (uu = s)) : Bool) fun p3 hp3 => ?_
        refine V.go [.k (bv true),
          .k (bv true),
          .ld 2 0 true (fun _ => [iv z0, iv z1, iv z2, iv z3, iv z4, iv z5]),
          .cp (gT (b := true) iTT) 3 9 [] (fun hg G => right_ct z0 z1 z2 z3 z4 z5),
          .k (bv (decide (Dm.Rt [z0, z1, z2, z3, z4, z5]))),
          .k (bv (decide (Dm.Rt [z0, z1, z2, z3, z4, z5]))),
          .ld 2 0 true (fun _ => [iv z0, iv z1, iv z2, iv z3, iv z4, iv z5]),
          .cp (gT (b := decide (Dm.Rt [z0, z1, z2, z3, z4, z5])) iDT) 7 7 [] (fun hg G => text_ctv z0 z1 z2 z3 z4 z5 uu huu.symm),
          .k (tv s),
          .seq uu s,
          .andn g0 false (decide (Dm.Rt [z0, z1, z2, z3, z4, z5])) (decide (uu = s)) p3 hp3,
          .k (bv p3)] (fun _ _ => by kernel_rfl) fun _ _ G11 => ?_
        intro S11 t11
        have e0 : p3 = true := by
          refine (iN hp3 (iAT iDT iDT)).2 ?_
          have hy : Dm.rdB s = true := by rw [← hzB]; first | exact q6 | exact Decidable.not_not.1 q6
          have h6 := Dm.rd_y hy
          rw [← hz0, ← hz1, ← hz2, ← hz3, ← hz4, ← hz5, ← huu] at h6
          exact h6
        exact V.ret [0] [] [] [] [] [] (bv p3) (fun _ _ => by kernel_rfl) (fun _ _ => (Eq.trans (by kernel_rfl) (cong1 (fun (x0 : Bool) => (bv x0 : Value)) e0)).trans (by kernel_rfl)) (fun _ _ => trivial)

end Kb
