/- The contracts of reveal: lists. -/
import Derived.Test.YtaolgnmpgnamnaaVa
import Derived.Test.YtaolgnmpgnamnaaRm
set_option linter.unusedVariables false
set_option linter.unusedSimpArgs false
namespace Kb
open Go Go.Proofs
set_option maxRecDepth 10000 in
theorem index_ct (s : List Int) (ss : SV) (v : Int) :
    Cp Try.prog 73 #[ss.v, iv v] [fs true s ss] (iv (Rv.idx v s)) := by
  refine V.fn mo Try.func73 19 0 (by kernel_rfl) fun w H ε k0 => ?_
  obtain ⟨⟨kl1, -⟩, -⟩ : Lq s ss.v ∧ True := kn k0 (by kernel_rfl)
  clear k0
  refine V.go [.k (iv 0)] (fun _ _ => by kernel_rfl) fun _ _ G1 => ?_
  intro S1 t1
  refine V.go [.k (ss.v),
    .ln (kf false (.f 0) s (fun _ => ss)),
    .k (iv 0)] (fun _ _ => by kernel_rfl) fun _ _ G2 => ?_
  intro S2 t2
  refine V.loop (γ := Int) (fun k0 => ⟨[(0, ss.v), (1, iv v), (7, iv (s.length : Int)), (8, iv k0)], [fs false s ss], []⟩) (fun k0 => (0 ≤ k0) ∧ (k0 ≤ (s.length : Int)) ∧ (∀ i, i < k0.toNat → s.getD i default ≠ v)) (fun k0 => ((s.length : Int) - k0).toNat) 0 (by kernel_rfl) [0] (by kernel_rfl) ?_ ?_
  · skip
    refine ⟨?_, ?_, ?_⟩
    · show 0 ≤ (0 : Int)
      first | omega | rfl | (simp; done) | (subst_vars; simp; done)
    · show (0 : Int) ≤ (s.length : Int)
      first | omega | rfl | (simp; done) | (subst_vars; simp; done)
    · show ∀ i, i < (0 : Int).toNat → s.getD i default ≠ v
      intro i hi; simp at hi
  · rintro k0 hF1 kw3 Z1 hZ1
    have hF1 : (0 ≤ k0) ∧ (k0 ≤ (s.length : Int)) ∧ (∀ i, i < k0.toNat → s.getD i default ≠ v) := hF1
    obtain ⟨hf1, hf2, hf3⟩ := hF1
    clear kw3
    refine V.go [.k (bv (decide (k0 < (s.length : Int))))] (fun _ _ => by kernel_rfl) fun _ _ G3 => ?_
    intro S3 t3
    refine V.cond (b := decide (k0 < (s.length : Int))) iDT iDF (by kernel_rfl) (fun q1 => ?_) (fun q2 => ?_)
    · skip
      refine V.go [.k (iv k0),
        .k (iv k0)] (fun _ _ => by kernel_rfl) fun _ _ G4 => ?_
      intro S4 t4
      refine nm (s.getD k0.toNat default : Int) fun v1 hv1 => ?_
      refine V.go [.k (iv v),
        .k (ss.v),
        .k (iv k0),
        .ix g0 (kf false (.f 0) s (fun _ => ss)) k0 (fun _ => ⟨by omega, by omega⟩),
        .le g0 (kf false (.f 0) s (fun _ => ss)) k0 none false v1 hv1 (fun _ => ⟨by omega, by omega⟩) false (fun _ => [iv v1]),
        .k (bv (decide (v = v1)))] (fun _ _ => by kernel_rfl) fun _ _ G5 => ?_
      intro S5 t5
      refine V.cond (b := decide (v = v1)) iDT iDF (by kernel_rfl) (fun q3 => ?_) (fun q4 => ?_)
      · skip
        refine V.go [.k (iv k0),
          .k (iv k0)] (fun _ _ => by kernel_rfl) fun _ _ G6 => ?_
        intro S6 t6
        have e0 : k0 = Rv.idx v s := by
          rw [Rv.idx_at (k := k0.toNat) (by omega) hf3 (by rw [← hv1]; exact q3.symm)]; omega
        exact V.ret [0] [] [] [] [] [] (iv k0) (fun _ _ => by kernel_rfl) (fun _ _ => (Eq.trans (by kernel_rfl) (cong1 (fun (x0 : Int) => (iv x0 : Value)) e0)).trans (by kernel_rfl)) (fun _ _ => trivial)
      · skip
        refine V.go [.a (k0 + 1) (by omega) (by omega),
          .k (iv (k0 + 1))] (fun _ _ => by kernel_rfl) fun _ _ G7 => ?_
        intro S7 t7
        refine V.rnd hZ1 (k0 + 1) [0] (by kernel_rfl) ?_ ?_
        · skip
          refine ⟨?_, ?_, ?_⟩
          · show 0 ≤ (k0 + 1)
            first | omega | rfl | (simp; done) | (subst_vars; simp; done)
          · show (k0 + 1) ≤ (s.length : Int)
            first | omega | rfl | (simp; done) | (subst_vars; simp; done)
          · show ∀ i, i < (k0 + 1).toNat → s.getD i default ≠ v
            intro i hi; by_cases e : i < k0.toNat
            · exact hf3 i e
            · rw [show i = k0.toNat by omega, ← hv1]; exact fun e => q4 e.symm
        · show ((s.length : Int) - (k0 + 1)).toNat < ((s.length : Int) - k0).toNat
          omega
    · skip
      refine V.go [.k (iv (-1))] (fun _ _ => by kernel_rfl) fun _ _ G8 => ?_
      intro S8 t8
      have e0 : (-1 : Int) = Rv.idx v s := by
        exact (Rv.idx_no fun i hi => hf3 i (by omega)).symm
      exact V.ret [0] [] [] [] [] [] (iv (-1)) (fun _ _ => by kernel_rfl) (fun _ _ => (Eq.trans (by kernel_rfl) (cong1 (fun (x0 : Int) => (iv x0 : Value)) e0)).trans (by kernel_rfl)) (fun _ _ => trivial)

set_option maxRecDepth 10000 in
theorem contains_ct (s : List Int) (ss : SV) (v : Int) :
    Cp Try.prog 62 #[ss.v, iv v] [fs true s ss] (bv (decide (v ∈ s))) := by
  refine V.fn mo Try.func62 9 0 (by kernel_rfl) fun w H ε k0 => ?_
  obtain ⟨⟨kl1, -⟩, -⟩ : Lq s ss.v ∧ True := kn k0 (by kernel_rfl)
  clear k0
  refine V.go [.k (bv false)] (fun _ _ => by kernel_rfl) fun _ _ G1 => ?_
  intro S1 t1
  refine V.go [.k (ss.v),
    .k (iv v),
    .cp g0 2 73 [(kf false (.f 0) s (fun _ => ss)).a] (fun _ G => index_ct s ss v),
    .k (bv (decide (0 ≤ Rv.idx v s))),
    .k (bv (decide (0 ≤ Rv.idx v s)))] (fun _ _ => by kernel_rfl) fun _ _ G2 => ?_
  intro S2 t2
  have e0 : (decide (0 ≤ Rv.idx v s)) = decide (v ∈ s) := by
    refine Bool.eq_iff_iff.2 (Iff.trans iDT (Iff.trans ?_ decide_eq_true_iff.symm))
    exact Rv.idx_mem
  exact V.ret [0] [] [] [] [] [] (bv (decide (0 ≤ Rv.idx v s))) (fun _ _ => by kernel_rfl) (fun _ _ => (Eq.trans (by kernel_rfl) (cong1 (fun (x0 : Bool) => (bv x0 : Value)) e0)).trans (by kernel_rfl)) (fun _ _ => trivial)

set_option maxRecDepth 10000 in
theorem equal_ct (s1 : List DThing) (s1s : SV) (s2 : List DThing) (s2s : SV) :
    Cp Try.prog 65 #[s1s.v, s2s.v] [fs true s1 s1s, fs true s2 s2s] (bv (decide (s1 = s2))) := by
  refine V.fn mo Try.func65 26 0 (by kernel_rfl) fun w H ε k0 => ?_
  obtain ⟨⟨kl1, -⟩, ⟨kl2, -⟩, -⟩ : Lq s1 s1s.v ∧ Lq s2 s2s.v ∧ True := kn k0 (by kernel_rfl)
  clear k0
  refine V.go [.k (bv false)] (fun _ _ => by kernel_rfl) fun _ _ G1 => ?_
  intro S1 t1
  refine V.go [.k (s1s.v),
    .ln (kf false (.f 0) s1 (fun _ => s1s)),
    .k (s2s.v),
    .ln (kf false (.f 1) s2 (fun _ => s2s)),
    .k (bv (!(decide ((s1.length : Int) = (s2.length : Int)))))] (fun _ _ => by kernel_rfl) fun _ _ G2 => ?_
  intro S2 t2
  refine V.cond (b := !(decide ((s1.length : Int) = (s2.length : Int)))) (iNT iDF) (iNF iDT) (by kernel_rfl) (fun q1 => ?_) (fun q2 => ?_)
  · skip
    refine V.go [.k (bv false)] (fun _ _ => by kernel_rfl) fun _ _ G3 => ?_
    intro S3 t3
    have e0 : false = decide (s1 = s2) := by
      symm; rw [decide_eq_false_iff_not]; intro h; apply q1; rw [h]
    exact V.ret [0] [] [] [] [] [] (bv false) (fun _ _ => by kernel_rfl) (fun _ _ => (Eq.trans (by kernel_rfl) (cong1 (fun (x0 : Bool) => (bv x0 : Value)) e0)).trans (by kernel_rfl)) (fun _ _ => trivial)
  · skip
    refine V.go [.k (s1s.v),
      .ln (kf false (.f 0) s1 (fun _ => s1s)),
      .k (iv 0)] (fun _ _ => by kernel_rfl) fun _ _ G4 => ?_
    intro S4 t4
    refine V.loop (γ := Int) (fun k0 => ⟨[(0, s1s.v), (1, s2s.v), (12, iv (s1.length : Int)), (13, iv k0)], [fs false s1 s1s, fs false s2 s2s], []⟩) (fun k0 => (0 ≤ k0) ∧ (k0 ≤ (s1.length : Int)) ∧ (∀ i, i < k0.toNat → s1.getD i default = s2.getD i default)) (fun k0 => ((s1.length : Int) - k0).toNat) 0 (by kernel_rfl) [0, 1] (by kernel_rfl) ?_ ?_
    · skip
      refine ⟨?_, ?_, ?_⟩
      · show 0 ≤ (0 : Int)
        first | omega | rfl | (simp; done) | (subst_vars; simp; done)
      · show (0 : Int) ≤ (s1.length : Int)
        first | omega | rfl | (simp; done) | (subst_vars; simp; done)
      · show ∀ i, i < (0 : Int).toNat → s1.getD i default = s2.getD i default
        intro i hi; simp at hi
    · rintro k0 hF1 kw5 Z1 hZ1
      have hF1 : (0 ≤ k0) ∧ (k0 ≤ (s1.length : Int)) ∧ (∀ i, i < k0.toNat → s1.getD i default = s2.getD i default) := hF1
      obtain ⟨hf1, hf2, hf3⟩ := hF1
      clear kw5
      refine V.go [.k (bv (decide (k0 < (s1.length : Int))))] (fun _ _ => by kernel_rfl) fun _ _ G5 => ?_
      intro S5 t5
      refine V.cond (b := decide (k0 < (s1.length : Int))) iDT iDF (by kernel_rfl) (fun q3 => ?_) (fun q4 => ?_)
      · skip
        refine V.go [.k (iv k0),
          .k (iv k0)] (fun _ _ => by kernel_rfl) fun _ _ G6 => ?_
        intro S6 t6
        refine nm (s1.getD k0.toNat default : DThing) fun x1 hx1 => ?_
        refine nm (s2.getD k0.toNat default : DThing) fun x2 hx2 => ?_
        refine V.go [.k (s1s.v),
          .k (iv k0),
          .ix g0 (kf false (.f 0) s1 (fun _ => s1s)) k0 (fun _ => ⟨by omega, by omega⟩),
          .le g0 (kf false (.f 0) s1 (fun _ => s1s)) k0 none false x1 hx1 (fun _ => ⟨by omega, by omega⟩) true (fun _ => Dat.cells x1),
          .k (s2s.v),
          .k (iv k0),
          .ix g0 (kf false (.f 1) s2 (fun _ => s2s)) k0 (fun _ => ⟨by omega, by omega⟩),
          .le g0 (kf false (.f 1) s2 (fun _ => s2s)) k0 none false x2 hx2 (fun _ => ⟨by omega, by omega⟩) true (fun _ => Dat.cells x2),
          .aeq true 44 (ca x1) (ca x2) _ fun w => thing_equal w x1.Text x1.Value x1.Blind x1.Left x1.Right x2.Text x2.Value x2.Blind x2.Left x2.Right] (fun _ _ => by kernel_rfl) fun _ _ G7 => ?_
        intro S7 t7
        refine V.cond (b := !(decide (x1.Text = x2.Text ∧ x1.Value = x2.Value ∧ x1.Blind = x2.Blind ∧ x1.Left = x2.Left ∧ x1.Right = x2.Right))) (iNT iDF) (iNF iDT) (by kernel_rfl) (fun q5 => ?_) (fun q6 => ?_)
        · skip
          refine V.go [.k (bv false)] (fun _ _ => by kernel_rfl) fun _ _ G8 => ?_
          intro S8 t8
          have e0 : false = decide (s1 = s2) := by
            symm; rw [decide_eq_false_iff_not]; intro h; apply q5
            rw [← Tm.thing_ext, hx1, hx2, h]
          exact V.ret [0] [] [] [] [] [] (bv false) (fun _ _ => by kernel_rfl) (fun _ _ => (Eq.trans (by kernel_rfl) (cong1 (fun (x0 : Bool) => (bv x0 : Value)) e0)).trans (by kernel_rfl)) (fun _ _ => trivial)
        · skip
          refine V.go [.a (k0 + 1) (by omega) (by omega),
            .k (iv (k0 + 1))] (fun _ _ => by kernel_rfl) fun _ _ G9 => ?_
          intro S9 t9
          refine V.rnd hZ1 (k0 + 1) [0, 1] (by kernel_rfl) ?_ ?_
          · skip
            refine ⟨?_, ?_, ?_⟩
            · show 0 ≤ (k0 + 1)
              first | omega | rfl | (simp; done) | (subst_vars; simp; done)
            · show (k0 + 1) ≤ (s1.length : Int)
              first | omega | rfl | (simp; done) | (subst_vars; simp; done)
            · show ∀ i, i < (k0 + 1).toNat → s1.getD i default = s2.getD i default
              intro i hi; by_cases e : i < k0.toNat
              · exact hf3 i e
              · rw [show i = k0.toNat by omega, ← hx1, ← hx2]; exact (Tm.thing_ext _ _).2 q6
          · show ((s1.length : Int) - (k0 + 1)).toNat < ((s1.length : Int) - k0).toNat
            omega
      · skip
        refine V.go [.k (bv true)] (fun _ _ => by kernel_rfl) fun _ _ G10 => ?_
        intro S10 t10
        have e0 : true = decide (s1 = s2) := by
          symm; rw [decide_eq_true_iff]; exact Rv.eq_of_getD (by omega) fun i hi => hf3 i (by omega)
        exact V.ret [0] [] [] [] [] [] (bv true) (fun _ _ => by kernel_rfl) (fun _ _ => (Eq.trans (by kernel_rfl) (cong1 (fun (x0 : Bool) => (bv x0 : Value)) e0)).trans (by kernel_rfl)) (fun _ _ => trivial)

set_option maxRecDepth 10000 in
theorem hidden_ct (x_Text : ByteArray) (x_Value x_Blind x_Left x_Right : Int) :
    Cp Try.prog 78 #[ag (DThing.mk x_Text x_Value x_Blind x_Left x_Right)] [] (bv (decide (x_Value = -1 ∧ x_Blind = -1))) := by
  refine V.fn mo Try.func78 11 1 (by kernel_rfl) fun w H ε k0 => ?_
  clear k0
  refine V.go [.nb 0 0 (fun b => pp b 0) 44 (fun _ => ca (DThing.mk x_Text x_Value x_Blind x_Left x_Right)),
    .k (bv false)] (fun _ _ => by kernel_rfl) fun _ _ G1 => ?_
  intro S1 t1
  refine nm ((decide (x_Value = (-1))) && (decide (x_Blind = (-1))) : Bool) fun p1 hp1 => ?_
  refine V.go [.k (pp ((G1 0).b) 1),
    .ld 0 1 false (fun _ => [iv x_Value]),
    .k (bv (decide (x_Value = (-1)))),
    .k (bv (decide (x_Value = (-1)))),
    .k (pp ((G1 0).b) 2),
    .ld 0 2 false (fun _ => [iv x_Blind]),
    .k (bv (decide (x_Blind = (-1)))),
    .andn g0 false (decide (x_Value = (-1))) (decide (x_Blind = (-1))) p1 hp1,
    .k (bv p1)] (fun _ _ => by kernel_rfl) fun _ _ G2 => ?_
  intro S2 t2
  have e0 : p1 = decide (x_Value = -1 ∧ x_Blind = -1) := by
    refine Bool.eq_iff_iff.2 (Iff.trans (iN hp1 (iAT iDT iDT)) (Iff.trans ?_ decide_eq_true_iff.symm))
    exact Iff.rfl
  exact V.ret [0] [] [] [] [] [] (bv p1) (fun _ _ => by kernel_rfl) (fun _ _ => (Eq.trans (by kernel_rfl) (cong1 (fun (x0 : Bool) => (bv x0 : Value)) e0)).trans (by kernel_rfl)) (fun _ _ => trivial)

set_option maxRecDepth 10000 in
theorem opened_ct (x_Text : ByteArray) (x_Value x_Blind x_Left x_Right : Int) :
    Cp Try.prog 79 #[ag (DThing.mk x_Text x_Value x_Blind x_Left x_Right)] [] (bv (decide (Tm.Bd ⟨x_Text, x_Value, x_Blind, x_Left, x_Right⟩))) := by
  refine V.fn mo Try.func79 21 1 (by kernel_rfl) fun w H ε k0 => ?_
  clear k0
  refine V.go [.nb 0 0 (fun b => pp b 0) 44 (fun _ => ca (DThing.mk x_Text x_Value x_Blind x_Left x_Right)),
    .k (bv false)] (fun _ _ => by kernel_rfl) fun _ _ G1 => ?_
  intro S1 t1
  refine nm ((decide (0 ≤ x_Value)) && (decide (x_Value ≤ 1125899906842624)) : Bool) fun p1 hp1 => ?_
  refine nm ((p1 && (decide (0 ≤ x_Blind))) && (decide (x_Blind ≤ 1125899906842624)) : Bool) fun p2 hp2 => ?_
  refine V.go [.k (pp ((G1 0).b) 1),
    .ld 0 1 false (fun _ => [iv x_Value]),
    .k (bv (decide (0 ≤ x_Value))),
    .k (bv (decide (0 ≤ x_Value))),
    .k (pp ((G1 0).b) 1),
    .ld 0 1 false (fun _ => [iv x_Value]),
    .k (bv (decide (x_Value ≤ 1125899906842624))),
    .andn g0 false (decide (0 ≤ x_Value)) (decide (x_Value ≤ 1125899906842624)) p1 hp1,
    .k (bv p1),
    .k (pp ((G1 0).b) 2),
    .ld 0 2 false (fun _ => [iv x_Blind]),
    .k (bv (decide (0 ≤ x_Blind))),
    .and g0 false p1 (decide (0 ≤ x_Blind)),
    .k (bv (p1 && (decide (0 ≤ x_Blind)))),
    .k (pp ((G1 0).b) 2),
    .ld 0 2 false (fun _ => [iv x_Blind]),
    .k (bv (decide (x_Blind ≤ 1125899906842624))),
    .andn g0 false (p1 && (decide (0 ≤ x_Blind))) (decide (x_Blind ≤ 1125899906842624)) p2 hp2,
    .k (bv p2)] (fun _ _ => by kernel_rfl) fun _ _ G2 => ?_
  intro S2 t2
  have e0 : p2 = decide (Tm.Bd ⟨x_Text, x_Value, x_Blind, x_Left, x_Right⟩) := by
    refine Bool.eq_iff_iff.2 (Iff.trans (iN hp2 (iAT (iAT (iN hp1 (iAT iDT iDT)) iDT) iDT)) (Iff.trans ?_ decide_eq_true_iff.symm))
    simp only [Tm.Bd]
    omega
  exact V.ret [0] [] [] [] [] [] (bv p2) (fun _ _ => by kernel_rfl) (fun _ _ => (Eq.trans (by kernel_rfl) (cong1 (fun (x0 : Bool) => (bv x0 : Value)) e0)).trans (by kernel_rfl)) (fun _ _ => trivial)

set_option maxRecDepth 10000 in
theorem walk_ct (path : List Int) (paths : SV) (seen : List DThing) (seens : SV) :
    Cp Try.prog 74 #[paths.v, seens.v] [fs true path paths, fs true seen seens] (bv (decide (Rv.walk path seen))) := by
  refine V.fn mo Try.func74 89 2 (by kernel_rfl) fun w H ε k0 => ?_
  obtain ⟨⟨kl1, -⟩, ⟨kl2, -⟩, -⟩ : Lq path paths.v ∧ Lq seen seens.v ∧ True := kn k0 (by kernel_rfl)
  clear k0
  refine V.go [.k (bv false)] (fun _ _ => by kernel_rfl) fun _ _ G1 => ?_
  intro S1 t1
  refine V.go [.k (paths.v),
    .ln (kf false (.f 0) path (fun _ => paths)),
    .k (iv (path.length : Int))] (fun _ _ => by kernel_rfl) fun _ _ G2 => ?_
  intro S2 t2
  refine nm ((decide ((path.length : Int) = 0)) || (!(decide ((seen.length : Int) = (path.length : Int)))) : Bool) fun p1 hp1 => ?_
  refine V.go [.k (iv (path.length : Int)),
    .k (bv (decide ((path.length : Int) = 0))),
    .k (bv (decide ((path.length : Int) = 0))),
    .k (seens.v),
    .ln (kf false (.f 1) seen (fun _ => seens)),
    .k (iv (path.length : Int)),
    .k (bv (!(decide ((seen.length : Int) = (path.length : Int))))),
    .orn g0 false (decide ((path.length : Int) = 0)) (!(decide ((seen.length : Int) = (path.length : Int)))) p1 hp1] (fun _ _ => by kernel_rfl) fun _ _ G3 => ?_
  intro S3 t3
  refine V.cond (b := p1) (iN hp1 (iOT iDT (iNT iDF))) (iN hp1 (iOF iDF (iNF iDT))) (by kernel_rfl) (fun q1 => ?_) (fun q2 => ?_)
  · skip
    refine V.go [.k (bv false)] (fun _ _ => by kernel_rfl) fun _ _ G4 => ?_
    intro S4 t4
    have e0 : false = decide (Rv.walk path seen) := by
      symm; rw [decide_eq_false_iff_not]
      rintro ⟨h1, h2, _⟩; omega
    exact V.ret [0] [] [] [] [] [] (bv false) (fun _ _ => by kernel_rfl) (fun _ _ => (Eq.trans (by kernel_rfl) (cong1 (fun (x0 : Bool) => (bv x0 : Value)) e0)).trans (by kernel_rfl)) (fun _ _ => trivial)
  · skip
    refine nm ((path.length : Int) - 1 : Int) fun n1 hn1 => ?_
    refine nm (seen.take n1.toNat : List DThing) fun l1 hl1 => ?_
    have hl1n := congrArg List.length hl1; try simp only [List.length_append, List.length_cons, List.length_nil, List.length_replicate, List.length_set, List.length_take, List.length_drop, List.length_map, List.length_reverse, List.length_range] at hl1n
    refine V.reg [.k (seens.v),
      .k (iv (path.length : Int)),
      .ar ((path.length : Int) - 1) n1 hn1 (by omega) (by omega),
      .sl g0 (kf false (.f 1) seen (fun _ => seens)) rfl none (some n1) 0 n1 rfl rfl l1 (by rw [hl1]; simp) (fun _ => ⟨by omega, by omega, by omega⟩),
      .ln (kf false (.g 3 0) l1 (fun _ => (seens.sub 5 (0 : Int).toNat n1.toNat))),
      .k (iv 0)] (fun _ _ => by kernel_rfl) fun _ _ G5 kw5 => ?_
    intro S5 t5
    obtain ⟨⟨kl3, -⟩, -⟩ : Lq l1 ((seens.sub 5 (0 : Int).toNat n1.toNat).v) ∧ True := kn kw5 (by kernel_rfl)
    clear kw5
    refine V.loop (γ := Int) (fun k0 => ⟨[(0, paths.v), (1, seens.v), (5, iv (path.length : Int)), (23, (seens.sub 5 (0 : Int).toNat n1.toNat).v), (24, iv (l1.length : Int)), (25, iv k0)], [fs false path paths, fs false seen seens, fs false l1 (seens.sub 5 (0 : Int).toNat n1.toNat)], [.no, .no]⟩) (fun k0 => (0 ≤ k0) ∧ (k0 ≤ (l1.length : Int)) ∧ (∀ i, i < k0.toNat → Rv.mid path seen i)) (fun k0 => ((l1.length : Int) - k0).toNat) 0 (by kernel_rfl) [0, 1, 2] (by kernel_rfl) ?_ ?_
    · skip
      refine ⟨?_, ?_, ?_⟩
      · show 0 ≤ (0 : Int)
        first | omega | rfl | (simp; done) | (subst_vars; simp; done)
      · show (0 : Int) ≤ (l1.length : Int)
        first | omega | rfl | (simp; done) | (subst_vars; simp; done)
      · show ∀ i, i < (0 : Int).toNat → Rv.mid path seen i
        intro i hi; simp at hi
    · rintro k0 hF1 kw6 Z1 hZ1
      have hF1 : (0 ≤ k0) ∧ (k0 ≤ (l1.length : Int)) ∧ (∀ i, i < k0.toNat → Rv.mid path seen i) := hF1
      obtain ⟨hf1, hf2, hf3⟩ := hF1
      clear kw6
      refine V.go [.k (bv (decide (k0 < (l1.length : Int))))] (fun _ _ => by kernel_rfl) fun _ _ G6 => ?_
      intro S6 t6
      refine V.cond (b := decide (k0 < (l1.length : Int))) iDT iDF (by kernel_rfl) (fun q3 => ?_) (fun q4 => ?_)
      · skip
        refine nm (l1.getD k0.toNat default : DThing) fun x1 hx1 => ?_
        refine V.go [.k (iv k0),
          .ix g0 (kf false (.f 2) l1 (fun _ => (seens.sub 5 (0 : Int).toNat n1.toNat))) k0 (fun _ => ⟨by omega, by omega⟩),
          .le g0 (kf false (.f 2) l1 (fun _ => (seens.sub 5 (0 : Int).toNat n1.toNat))) k0 none false x1 hx1 (fun _ => ⟨by omega, by omega⟩) true (fun _ => Dat.cells x1),
          .nb 3 0 (fun b => pp b 0) 44 (fun _ => ca (DThing.mk ByteArray.empty 0 0 0 0)),
          .k (iv k0),
          .st 0 (fun G => .blk ((G 3).b) (ca x1) 44)] (fun _ _ => by kernel_rfl) fun _ _ G7 => ?_
        intro S7 t7
        refine nm (path.getD (k0 + 1).toNat default : Int) fun v1 hv1 => ?_
        refine V.go [.k (paths.v),
          .k (iv k0),
          .a (k0 + 1) (by omega) (by omega),
          .ix g0 (kf false (.f 0) path (fun _ => paths)) (k0 + 1) (fun _ => ⟨by omega, by omega⟩),
          .le g0 (kf false (.f 0) path (fun _ => paths)) (k0 + 1) none false v1 hv1 (fun _ => ⟨by omega, by omega⟩) false (fun _ => [iv v1]),
          .k (iv v1)] (fun _ _ => by kernel_rfl) fun _ _ G8 => ?_
        intro S8 t8
        refine nm ((!(decide (x1.Left = v1))) && (!(decide (x1.Right = v1))) : Bool) fun p2 hp2 => ?_
        refine nm ((decide (0 < k0)) && (!(decide (x1.Value = -1 ∧ x1.Blind = -1))) : Bool) fun p3 hp3 => ?_
        refine nm (((!(decide (x1.Text = ByteArray.empty))) || p2) || p3 : Bool) fun p4 hp4 => ?_
        refine V.go [.k (pp ((G7 3).b) 0),
          .ld 0 0 false (fun _ => [tv x1.Text]),
          .sne x1.Text ByteArray.empty,
          .k (bv (!(decide (x1.Text = ByteArray.empty)))),
          .k (pp ((G7 3).b) 3),
          .ld 0 3 false (fun _ => [iv x1.Left]),
          .k (iv v1),
          .k (bv (!(decide (x1.Left = v1)))),
          .k (bv (!(decide (x1.Left = v1)))),
          .k (pp ((G7 3).b) 4),
          .ld 0 4 false (fun _ => [iv x1.Right]),
          .k (iv v1),
          .k (bv (!(decide (x1.Right = v1)))),
          .andn (gF (b := !(decide (x1.Text = ByteArray.empty))) (iNF iDT)) false (!(decide (x1.Left = v1))) (!(decide (x1.Right = v1))) p2 hp2,
          .or g0 false (!(decide (x1.Text = ByteArray.empty))) p2,
          .k (bv ((!(decide (x1.Text = ByteArray.empty))) || p2)),
          .k (iv k0),
          .k (bv (decide (0 < k0))),
          .k (bv (decide (0 < k0))),
          .ld 0 0 true (fun _ => Dat.cells x1),
          .cp ((gF (b := (!(decide (x1.Text = ByteArray.empty))) || p2) (iOF (iNF iDT) (iN hp2 (iAF (iNF iDT) (iNF iDT))))).T (b := decide (0 < k0)) iDT) 20 78 [] (fun hg G => hidden_ct x1.Text x1.Value x1.Blind x1.Left x1.Right),
          .k (bv (!(decide (x1.Value = -1 ∧ x1.Blind = -1)))),
          .andn (gF (b := (!(decide (x1.Text = ByteArray.empty))) || p2) (iOF (iNF iDT) (iN hp2 (iAF (iNF iDT) (iNF iDT))))) false (decide (0 < k0)) (!(decide (x1.Value = -1 ∧ x1.Blind = -1))) p3 hp3,
          .orn g0 false ((!(decide (x1.Text = ByteArray.empty))) || p2) p3 p4 hp4] (fun _ _ => by kernel_rfl) fun _ _ G9 => ?_
        intro S9 t9
        refine V.cond (b := p4) (iN hp4 (iOT (iOT (iNT iDF) (iN hp2 (iAT (iNT iDF) (iNT iDF)))) (iN hp3 (iAT iDT (iNT iDF))))) (iN hp4 (iOF (iOF (iNF iDT) (iN hp2 (iAF (iNF iDT) (iNF iDT)))) (iN hp3 (iAF iDF (iNF iDT))))) (by kernel_rfl) (fun q5 => ?_) (fun q6 => ?_)
        · skip
          refine V.go [.k (bv false)] (fun _ _ => by kernel_rfl) fun _ _ G10 => ?_
          intro S10 t10
          have e0 : false = decide (Rv.walk path seen) := by
            symm; rw [decide_eq_false_iff_not]
            exact Rv.walk_no (by omega) (by omega) hl1 hn1 hx1 hv1 q5
          exact V.ret [0] [] [] [] [] [] (bv false) (fun _ _ => by kernel_rfl) (fun _ _ => (Eq.trans (by kernel_rfl) (cong1 (fun (x0 : Bool) => (bv x0 : Value)) e0)).trans (by kernel_rfl)) (fun _ _ => trivial)
        · skip
          refine V.go [.a (k0 + 1) (by omega) (by omega),
            .k (iv (k0 + 1))] (fun _ _ => by kernel_rfl) fun _ _ G11 => ?_
          intro S11 t11
          refine V.rnd hZ1 (k0 + 1) [0, 1, 2] (by kernel_rfl) ?_ ?_
          · skip
            refine ⟨?_, ?_, ?_⟩
            · show 0 ≤ (k0 + 1)
              first | omega | rfl | (simp; done) | (subst_vars; simp; done)
            · show (k0 + 1) ≤ (l1.length : Int)
              first | omega | rfl | (simp; done) | (subst_vars; simp; done)
            · show ∀ i, i < (k0 + 1).toNat → Rv.mid path seen i
              exact Rv.mid_step hf3 (by omega) (by omega) hl1 hx1 hv1 q6
          · show ((l1.length : Int) - (k0 + 1)).toNat < ((l1.length : Int) - k0).toNat
            omega
      · skip
        refine nm ((path.length : Int) - 1 : Int) fun n2 hn2 => ?_
        refine nm (seen.getD n2.toNat default : DThing) fun x2 hx2 => ?_
        refine V.go [.k (seens.v),
          .k (iv (path.length : Int)),
          .ar ((path.length : Int) - 1) n2 hn2 (by omega) (by omega),
          .ix g0 (kf false (.f 1) seen (fun _ => seens)) n2 (fun _ => ⟨by omega, by omega⟩),
          .le g0 (kf false (.f 1) seen (fun _ => seens)) n2 none false x2 hx2 (fun _ => ⟨by omega, by omega⟩) true (fun _ => Dat.cells x2),
          .nb 5 1 (fun b => pp b 0) 44 (fun _ => ca (DThing.mk ByteArray.empty 0 0 0 0)),
          .st 1 (fun G => .blk ((G 5).b) (ca x2) 44)] (fun _ _ => by kernel_rfl) fun _ _ G12 => ?_
        intro S12 t12
        refine nm (seen.getD (0 : Int).toNat default : DThing) fun x3 hx3 => ?_
        refine nm ((decide (Tm.Bd ⟨x3.Text, x3.Value, x3.Blind, x3.Left, x3.Right⟩)) && (decide (Tm.Bd ⟨x2.Text, x2.Value, x2.Blind, x2.Left, x2.Right⟩)) : Bool) fun p5 hp5 => ?_
        refine nm ((p5 && (decide (x2.Left = (-1)))) && (decide (x2.Right = (-1))) : Bool) fun p6 hp6 => ?_
        refine V.go [.k (seens.v),
          .ix g0 (kf false (.f 1) seen (fun _ => seens)) 0 (fun _ => ⟨by omega, by omega⟩),
          .le g0 (kf false (.f 1) seen (fun _ => seens)) (0 : Int) none false x3 hx3 (fun _ => ⟨by omega, by omega⟩) true (fun _ => Dat.cells x3),
          .cp g0 3 79 [] (fun _ G => opened_ct x3.Text x3.Value x3.Blind x3.Left x3.Right),
          .k (bv (decide (Tm.Bd ⟨x3.Text, x3.Value, x3.Blind, x3.Left, x3.Right⟩))),
          .ld 1 0 true (fun _ => Dat.cells x2),
          .cp (gT (b := decide (Tm.Bd ⟨x3.Text, x3.Value, x3.Blind, x3.Left, x3.Right⟩)) iDT) 6 79 [] (fun hg G => opened_ct x2.Text x2.Value x2.Blind x2.Left x2.Right),
          .andn g0 false (decide (Tm.Bd ⟨x3.Text, x3.Value, x3.Blind, x3.Left, x3.Right⟩)) (decide (Tm.Bd ⟨x2.Text, x2.Value, x2.Blind, x2.Left, x2.Right⟩)) p5 hp5,
          .k (bv p5),
          .k (pp ((G12 5).b) 3),
          .ld 1 3 false (fun _ => [iv x2.Left]),
          .k (bv (decide (x2.Left = (-1)))),
          .and g0 false p5 (decide (x2.Left = (-1))),
          .k (bv (p5 && (decide (x2.Left = (-1))))),
          .k (pp ((G12 5).b) 4),
          .ld 1 4 false (fun _ => [iv x2.Right]),
          .k (bv (decide (x2.Right = (-1)))),
          .andn g0 false (p5 && (decide (x2.Left = (-1)))) (decide (x2.Right = (-1))) p6 hp6,
          .k (bv p6),
          .k (pp ((G12 5).b) 0),
          .ld 1 0 false (fun _ => [tv x2.Text]),
          .k (iv (x2.Text.size : Int)),
          .k (bv (decide ((x2.Text.size : Int) ≤ 8000))),
          .and g0 false p6 (decide ((x2.Text.size : Int) ≤ 8000)),
          .k (bv (p6 && (decide ((x2.Text.size : Int) ≤ 8000))))] (fun _ _ => by kernel_rfl) fun _ _ G13 => ?_
        intro S13 t13
        have e0 : (p6 && (decide ((x2.Text.size : Int) ≤ 8000))) = decide (Rv.walk path seen) := by
          refine Bool.eq_iff_iff.2 (Iff.trans (iAT (iN hp6 (iAT (iAT (iN hp5 (iAT iDT iDT)) iDT) iDT)) iDT) (Iff.trans ?_ decide_eq_true_iff.symm))
          exact (Rv.walk_fin (by omega) (by omega) (fun i hi => hf3 i (by omega)) hn2 hx2 hx3).symm
        exact V.ret [0] [] [] [] [] [] (bv (p6 && (decide ((x2.Text.size : Int) ≤ 8000)))) (fun _ _ => by kernel_rfl) (fun _ _ => (Eq.trans (by kernel_rfl) (cong1 (fun (x0 : Bool) => (bv x0 : Value)) e0)).trans (by kernel_rfl)) (fun _ _ => trivial)

end Kb
