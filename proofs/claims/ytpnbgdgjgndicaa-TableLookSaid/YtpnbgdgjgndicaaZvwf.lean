/- Texts for the claim, put together: the calculus of regions, its rules, and contracts of the functions that the law reaches. -/
import Derived.Test.YtpnbgdgjgndicaaZvwe
import Derived.Lib.Join
set_option linter.unusedVariables false
set_option linter.unusedSectionVars false
set_option linter.unusedSimpArgs false
namespace Kb
open Go Go.Proofs
set_option maxRecDepth 10000 in
theorem utimes_ct (a_P_Sign : Int) (a_P_Digits : List Int) (a_P_Digitss : SV) (a_Q_Sign : Int) (a_Q_Digits : List Int) (a_Q_Digitss : SV) (f_P_Sign : Int) (f_P_Digits : List Int) (f_P_Digitss : SV) (f_Q_Sign : Int) (f_Q_Digits : List Int) (f_Q_Digitss : SV) (exp : Int) (hFA : Fr.FrB a_P_Sign a_P_Digits a_Q_Sign a_Q_Digits) (hFF : Fr.FrB f_P_Sign f_P_Digits f_Q_Sign f_Q_Digits) (hf0 : f_P_Sign ≠ 0) (he : -9 ≤ exp ∧ exp ≤ 9) (hla : a_P_Digits.length ≤ 1000000 ∧ a_Q_Digits.length ≤ 1000000) (hlf : f_P_Digits.length ≤ 1000 ∧ f_Q_Digits.length ≤ 1000) :
    Ct Try.prog 48 #[ag (DFrac.mk (DBig.mk a_P_Sign ⟨a_P_Digits, a_P_Digitss⟩) (DBig.mk a_Q_Sign ⟨a_Q_Digits, a_Q_Digitss⟩)), ag (DFrac.mk (DBig.mk f_P_Sign ⟨f_P_Digits, f_P_Digitss⟩) (DBig.mk f_Q_Sign ⟨f_Q_Digits, f_Q_Digitss⟩)), iv exp] [fs true a_P_Digits a_P_Digitss, fs true a_Q_Digits a_Q_Digitss, fs true f_P_Digits f_P_Digitss, fs true f_Q_Digits f_Q_Digitss] [] (fun g => ag (DFrac.mk (DBig.mk (Fr.rS (True) (Un.tm (Fr.fq a_P_Sign a_P_Digits a_Q_Digits) (Fr.fq f_P_Sign f_P_Digits f_Q_Digits) exp)) ⟨Fr.rD (True) (Un.tm (Fr.fq a_P_Sign a_P_Digits a_Q_Digits) (Fr.fq f_P_Sign f_P_Digits f_Q_Digits) exp), (g.ss 0)⟩) (DBig.mk (Fr.rT (True)) ⟨Fr.rE (True) (Un.tm (Fr.fq a_P_Sign a_P_Digits a_Q_Digits) (Fr.fq f_P_Sign f_P_Digits f_Q_Digits) exp), (g.ss 1)⟩))) (fun g => [fs false (Fr.rD (True) (Un.tm (Fr.fq a_P_Sign a_P_Digits a_Q_Digits) (Fr.fq f_P_Sign f_P_Digits f_Q_Digits) exp)) (g.ss 0), fs false (Fr.rE (True) (Un.tm (Fr.fq a_P_Sign a_P_Digits a_Q_Digits) (Fr.fq f_P_Sign f_P_Digits f_Q_Digits) exp)) (g.ss 1)]) (fun g => []) (fun g => []) := by
  refine V.fn mo Try.func48 29 3 (by kernel_rfl) fun w H ε k0 => ?_
  obtain ⟨⟨kl1, -⟩, ⟨kl2, -⟩, ⟨kl3, -⟩, ⟨kl4, -⟩, -⟩ : Lq a_P_Digits a_P_Digitss.v ∧ Lq a_Q_Digits a_Q_Digitss.v ∧ Lq f_P_Digits f_P_Digitss.v ∧ Lq f_Q_Digits f_Q_Digitss.v ∧ True := kn k0 (by kernel_rfl)
  clear k0
  refine V.g [.nb 0 0 (fun b => pp b 0) 30 (fun _ => ca (DFrac.mk (DBig.mk a_P_Sign ⟨a_P_Digits, a_P_Digitss⟩) (DBig.mk a_Q_Sign ⟨a_Q_Digits, a_Q_Digitss⟩))),.nb 1 1 (fun b => pp b 0) 30 (fun _ => ca (DFrac.mk (DBig.mk f_P_Sign ⟨f_P_Digits, f_P_Digitss⟩) (DBig.mk f_Q_Sign ⟨f_Q_Digits, f_Q_Digitss⟩))),.nb 2 2 (fun b => pp b 0) 30 (fun _ => ca (DFrac.mk (DBig.mk 0 ⟨[], {}⟩) (DBig.mk 0 ⟨[], {}⟩)))] fun _ _ G1 => ?_
  intro S_ s_
  refine V.g [.k (iv exp),.k (iv exp),.ng exp (-exp) rfl (by omega) (by omega),.mx exp (-exp),.k (iv 0)] fun _ _ G2 => ?_
  intro S_ s_
  refine V.loop (γ := Int × Int × List Int × SV × Int × List Int × SV) (fun ⟨k0, a_0, a_1, a_1s, a_2, a_3, a_3s⟩ => ⟨[(2, iv exp), (3, pp ((G1 0).b) 0), (4, pp ((G1 1).b) 0), (6, pp ((G1 2).b) 0), (10, iv (max exp (-exp))), (11, iv k0)], [fs false a_1 a_1s, fs false a_3 a_3s, fs false f_P_Digits f_P_Digitss, fs false f_Q_Digits f_Q_Digitss], [.blk ((G1 0).b) (ca (DFrac.mk (DBig.mk a_0 ⟨a_1, a_1s⟩) (DBig.mk a_2 ⟨a_3, a_3s⟩))) 30, .blk ((G1 1).b) (ca (DFrac.mk (DBig.mk f_P_Sign ⟨f_P_Digits, f_P_Digitss⟩) (DBig.mk f_Q_Sign ⟨f_Q_Digits, f_Q_Digitss⟩))) 30, .blk ((G1 2).b) (ca (DFrac.mk (DBig.mk 0 ⟨[], {}⟩) (DBig.mk 0 ⟨[], {}⟩))) 30]⟩) (fun ⟨k0, a_0, a_1, a_1s, a_2, a_3, a_3s⟩ => (0 ≤ k0) ∧ (k0 ≤ max exp (-exp)) ∧ (Fr.Fz a_0 a_1 a_2 a_3 (Un.tmN (Fr.fq a_P_Sign a_P_Digits a_Q_Digits) (Fr.fq f_P_Sign f_P_Digits f_Q_Digits) (0 < exp) k0.toNat))) (fun ⟨k0, a_0, a_1, a_1s, a_2, a_3, a_3s⟩ => (max exp (-exp) - k0).toNat) (0, a_P_Sign, a_P_Digits, a_P_Digitss, a_Q_Sign, a_Q_Digits, a_Q_Digitss) (by kernel_rfl) [0, 1, 2, 3] (by kernel_rfl) ?_ ?_
  · refine ⟨?_, ?_, ?_⟩
    · show 0 ≤ (0 : Int)
      omega
    · show (0 : Int) ≤ max exp (-exp)
      omega
    show Fr.Fz a_P_Sign a_P_Digits a_Q_Sign a_Q_Digits (Un.tmN (Fr.fq a_P_Sign a_P_Digits a_Q_Digits) (Fr.fq f_P_Sign f_P_Digits f_Q_Digits) (0 < exp) (0 : Int).toNat)
    exact Fr.FrB.z hFA
  rintro ⟨k0, a_0, a_1, a_1s, a_2, a_3, a_3s⟩ hF1 kw3 Z1 hZ1
  have hF1 : (0 ≤ k0) ∧ (k0 ≤ max exp (-exp)) ∧ (Fr.Fz a_0 a_1 a_2 a_3 (Un.tmN (Fr.fq a_P_Sign a_P_Digits a_Q_Digits) (Fr.fq f_P_Sign f_P_Digits f_Q_Digits) (0 < exp) k0.toNat)) := hF1
  obtain ⟨hf1, hf2, hf3⟩ := hF1
  obtain ⟨⟨kl5, -⟩, ⟨kl6, -⟩, -, -, -⟩ : Lq a_1 a_1s.v ∧ Lq a_3 a_3s.v ∧ Lq f_P_Digits f_P_Digitss.v ∧ Lq f_Q_Digits f_Q_Digitss.v ∧ True := kn kw3 (by kernel_rfl)
  clear kw3
  have hzl := hf3.len (Un.tmN_hb (hFA.hb hla.1 hla.2) (hFF.hb hlf.1 hlf.2) _)
  have hzl1 := hzl.1; have hzl2 := hzl.2
  refine V.g [.k (bv (decide (k0 < max exp (-exp))))] fun _ _ G3 => ?_
  intro S_ s_
  refine V.cond (b := decide (k0 < max exp (-exp))) iDT iDF (by kernel_rfl) (fun q1 => ?_) (fun q2 => ?_)
  · refine V.g [.k (iv exp),.k (bv (decide (0 < exp)))] fun _ _ G4 => ?_
    intro S_ s_
    refine V.cond (b := decide (0 < exp)) iDT iDF (by kernel_rfl) (fun q3 => ?_) (fun q4 => ?_)
    · refine nm (Fr.rS (Fr.FrB a_0 a_1 a_2 a_3 ∧ Fr.FrB f_P_Sign f_P_Digits f_Q_Sign f_Q_Digits) ((Fr.fq a_0 a_1 a_3) * (Fr.fq f_P_Sign f_P_Digits f_Q_Digits)) : Int) fun n1 hn1 => ?_
      refine nm (Fr.rD (Fr.FrB a_0 a_1 a_2 a_3 ∧ Fr.FrB f_P_Sign f_P_Digits f_Q_Sign f_Q_Digits) ((Fr.fq a_0 a_1 a_3) * (Fr.fq f_P_Sign f_P_Digits f_Q_Digits)) : List Int) fun l1 hl1 => ?_
      have hl1n := congrArg List.length hl1
      refine nm (Fr.rT (Fr.FrB a_0 a_1 a_2 a_3 ∧ Fr.FrB f_P_Sign f_P_Digits f_Q_Sign f_Q_Digits) : Int) fun n2 hn2 => ?_
      refine nm (Fr.rE (Fr.FrB a_0 a_1 a_2 a_3 ∧ Fr.FrB f_P_Sign f_P_Digits f_Q_Sign f_Q_Digits) ((Fr.fq a_0 a_1 a_3) * (Fr.fq f_P_Sign f_P_Digits f_Q_Digits)) : List Int) fun l2 hl2 => ?_
      have hl2n := congrArg List.length hl2
      refine nm (if ¬ (Fr.FrB a_0 a_1 a_2 a_3 ∧ Fr.FrB f_P_Sign f_P_Digits f_Q_Sign f_Q_Digits) then (1 : Int) else 0 : Int) fun n3 hn3 => ?_
      refine V.r [.ld 0 0 true (fun _ => Dat.cells (DFrac.mk (DBig.mk a_0 ⟨a_1, a_1s⟩) (DBig.mk a_2 ⟨a_3, a_3s⟩))),.ld 1 0 true (fun _ => Dat.cells (DFrac.mk (DBig.mk f_P_Sign ⟨f_P_Digits, f_P_Digitss⟩) (DBig.mk f_Q_Sign ⟨f_Q_Digits, f_Q_Digitss⟩))),.ct g0 2 20 false [] [] [(kf false (.f 0) a_1 (fun _ => a_1s)).a, (kf false (.f 1) a_3 (fun _ => a_3s)).a, (kf false (.f 2) f_P_Digits (fun _ => f_P_Digitss)).a, (kf false (.f 3) f_Q_Digits (fun _ => f_Q_Digitss)).a] (fun _ G => fmul_ctv a_0 a_1 a_1s a_2 a_3 a_3s f_P_Sign f_P_Digits f_P_Digitss f_Q_Sign f_Q_Digits f_Q_Digitss (by omega) (by omega) (by omega) (by omega) n1 hn1 l1 hl1 n2 hn2 l2 hl2 n3 hn3),.v fun G => .tuple #[ag (DFrac.mk (DBig.mk n1 ⟨l1, (G 2).ss 0⟩) (DBig.mk n2 ⟨l2, (G 2).ss 1⟩)), iv n3],.v fun G => ag (DFrac.mk (DBig.mk n1 ⟨l1, (G 2).ss 0⟩) (DBig.mk n2 ⟨l2, (G 2).ss 1⟩)),.k (iv n3),.st 0 (fun G => .blk ((G1 0).b) (ca (DFrac.mk (DBig.mk n1 ⟨l1, (G 2).ss 0⟩) (DBig.mk n2 ⟨l2, (G 2).ss 1⟩))) 30)] fun _ _ G5 kw6 => ?_
      intro S_ s_
      obtain ⟨⟨kl7, -⟩, ⟨kl8, -⟩, -⟩ : Lq l1 (((G5 2).ss 0).v) ∧ Lq l2 (((G5 2).ss 1).v) ∧ True := kn kw6 (by kernel_rfl)
      clear kw6
      have hzn := Fr.Fz.of ⟨hf3.rt, hFF⟩ hn1 hl1 hn2 hl2
      rw [hf3.v] at hzn
      refine V.g [.a (k0 + 1) (by omega) (by omega),.k (iv (k0 + 1))] fun _ _ G6 => ?_
      intro S_ s_
      refine V.rnd hZ1 (k0 + 1, n1, l1, (G5 2).ss 0, n2, l2, (G5 2).ss 1) [4, 5, 2, 3] (by kernel_rfl) ?_ ?_
      · refine ⟨?_, ?_, ?_⟩
        · show 0 ≤ (k0 + 1)
          omega
        · show (k0 + 1) ≤ max exp (-exp)
          omega
        show Fr.Fz n1 l1 n2 l2 (Un.tmN (Fr.fq a_P_Sign a_P_Digits a_Q_Digits) (Fr.fq f_P_Sign f_P_Digits f_Q_Digits) (0 < exp) (k0 + 1).toNat)
        rw [show (k0 + 1).toNat = k0.toNat + 1 by omega, Un.tmN_y q3]; exact hzn
      show (max exp (-exp) - (k0 + 1)).toNat < (max exp (-exp) - k0).toNat
      omega
    refine nm (Fr.rS ((Fr.FrB a_0 a_1 a_2 a_3 ∧ Fr.FrB f_P_Sign f_P_Digits f_Q_Sign f_Q_Digits) ∧ f_P_Sign ≠ 0) ((Fr.fq a_0 a_1 a_3) / (Fr.fq f_P_Sign f_P_Digits f_Q_Digits)) : Int) fun n4 hn4 => ?_
    refine nm (Fr.rD ((Fr.FrB a_0 a_1 a_2 a_3 ∧ Fr.FrB f_P_Sign f_P_Digits f_Q_Sign f_Q_Digits) ∧ f_P_Sign ≠ 0) ((Fr.fq a_0 a_1 a_3) / (Fr.fq f_P_Sign f_P_Digits f_Q_Digits)) : List Int) fun l3 hl3 => ?_
    have hl3n := congrArg List.length hl3
    refine nm (Fr.rT ((Fr.FrB a_0 a_1 a_2 a_3 ∧ Fr.FrB f_P_Sign f_P_Digits f_Q_Sign f_Q_Digits) ∧ f_P_Sign ≠ 0) : Int) fun n5 hn5 => ?_
    refine nm (Fr.rE ((Fr.FrB a_0 a_1 a_2 a_3 ∧ Fr.FrB f_P_Sign f_P_Digits f_Q_Sign f_Q_Digits) ∧ f_P_Sign ≠ 0) ((Fr.fq a_0 a_1 a_3) / (Fr.fq f_P_Sign f_P_Digits f_Q_Digits)) : List Int) fun l4 hl4 => ?_
    have hl4n := congrArg List.length hl4
    refine nm (if ¬ (Fr.FrB a_0 a_1 a_2 a_3 ∧ Fr.FrB f_P_Sign f_P_Digits f_Q_Sign f_Q_Digits) then (1 : Int) else if f_P_Sign = 0 then 15 else 0 : Int) fun n6 hn6 => ?_
    refine V.r [.ld 0 0 true (fun _ => Dat.cells (DFrac.mk (DBig.mk a_0 ⟨a_1, a_1s⟩) (DBig.mk a_2 ⟨a_3, a_3s⟩))),.ld 1 0 true (fun _ => Dat.cells (DFrac.mk (DBig.mk f_P_Sign ⟨f_P_Digits, f_P_Digitss⟩) (DBig.mk f_Q_Sign ⟨f_Q_Digits, f_Q_Digitss⟩))),.ct g0 2 40 false [] [] [(kf false (.f 0) a_1 (fun _ => a_1s)).a, (kf false (.f 1) a_3 (fun _ => a_3s)).a, (kf false (.f 2) f_P_Digits (fun _ => f_P_Digitss)).a, (kf false (.f 3) f_Q_Digits (fun _ => f_Q_Digitss)).a] (fun _ G => fdiv_ctv a_0 a_1 a_1s a_2 a_3 a_3s f_P_Sign f_P_Digits f_P_Digitss f_Q_Sign f_Q_Digits f_Q_Digitss (by omega) (by omega) (by omega) (by omega) n4 hn4 l3 hl3 n5 hn5 l4 hl4 n6 hn6),.v fun G => .tuple #[ag (DFrac.mk (DBig.mk n4 ⟨l3, (G 2).ss 0⟩) (DBig.mk n5 ⟨l4, (G 2).ss 1⟩)), iv n6],.v fun G => ag (DFrac.mk (DBig.mk n4 ⟨l3, (G 2).ss 0⟩) (DBig.mk n5 ⟨l4, (G 2).ss 1⟩)),.k (iv n6),.st 0 (fun G => .blk ((G1 0).b) (ca (DFrac.mk (DBig.mk n4 ⟨l3, (G 2).ss 0⟩) (DBig.mk n5 ⟨l4, (G 2).ss 1⟩))) 30)] fun _ _ G7 kw8 => ?_
    intro S_ s_
    obtain ⟨⟨kl9, -⟩, ⟨kl10, -⟩, -⟩ : Lq l3 (((G7 2).ss 0).v) ∧ Lq l4 (((G7 2).ss 1).v) ∧ True := kn kw8 (by kernel_rfl)
    clear kw8
    have hzn := Fr.Fz.of ⟨⟨hf3.rt, hFF⟩, hf0⟩ hn4 hl3 hn5 hl4
    rw [hf3.v] at hzn
    refine V.g [.a (k0 + 1) (by omega) (by omega),.k (iv (k0 + 1))] fun _ _ G8 => ?_
    intro S_ s_
    refine V.rnd hZ1 (k0 + 1, n4, l3, (G7 2).ss 0, n5, l4, (G7 2).ss 1) [4, 5, 2, 3] (by kernel_rfl) ?_ ?_
    · refine ⟨?_, ?_, ?_⟩
      · show 0 ≤ (k0 + 1)
        omega
      · show (k0 + 1) ≤ max exp (-exp)
        omega
      show Fr.Fz n4 l3 n5 l4 (Un.tmN (Fr.fq a_P_Sign a_P_Digits a_Q_Digits) (Fr.fq f_P_Sign f_P_Digits f_Q_Digits) (0 < exp) (k0 + 1).toNat)
      rw [show (k0 + 1).toNat = k0.toNat + 1 by omega, Un.tmN_n q4]; exact hzn
    show (max exp (-exp) - (k0 + 1)).toNat < (max exp (-exp) - k0).toNat
    omega
  have htm : Un.tmN (Fr.fq a_P_Sign a_P_Digits a_Q_Digits) (Fr.fq f_P_Sign f_P_Digits f_Q_Digits) (0 < exp) k0.toNat = Un.tm (Fr.fq a_P_Sign a_P_Digits a_Q_Digits) (Fr.fq f_P_Sign f_P_Digits f_Q_Digits) exp := by unfold Un.tm; rw [show exp.natAbs = k0.toNat by omega]
  refine V.g [.ld 0 0 true (fun _ => Dat.cells (DFrac.mk (DBig.mk a_0 ⟨a_1, a_1s⟩) (DBig.mk a_2 ⟨a_3, a_3s⟩))),.st 2 (fun _ => .blk ((G1 2).b) (ca (DFrac.mk (DBig.mk a_0 ⟨a_1, a_1s⟩) (DBig.mk a_2 ⟨a_3, a_3s⟩))) 30)] fun _ _ G9 => ?_
  intro S_ s_
  have e1 : a_1 = Fr.rD (True) (Un.tm (Fr.fq a_P_Sign a_P_Digits a_Q_Digits) (Fr.fq f_P_Sign f_P_Digits f_Q_Digits) exp) := (Fr.Fz.ret hf3 True.intro htm).2.1
  subst e1
  have e3 : a_3 = Fr.rE (True) (Un.tm (Fr.fq a_P_Sign a_P_Digits a_Q_Digits) (Fr.fq f_P_Sign f_P_Digits f_Q_Digits) exp) := (Fr.Fz.ret hf3 True.intro htm).2.2.2
  subst e3
  have e0 : a_0 = Fr.rS (True) (Un.tm (Fr.fq a_P_Sign a_P_Digits a_Q_Digits) (Fr.fq f_P_Sign f_P_Digits f_Q_Digits) exp) := (Fr.Fz.ret hf3 True.intro htm).1
  have e2 : a_2 = Fr.rT (True) := (Fr.Fz.ret hf3 True.intro htm).2.2.1
  exact V.ret [2] [a_1s, a_3s] [fun _ => {}, fun _ => {}] [] [0, 1] [] (ag (DFrac.mk (DBig.mk a_0 ⟨(Fr.rD (True) (Un.tm (Fr.fq a_P_Sign a_P_Digits a_Q_Digits) (Fr.fq f_P_Sign f_P_Digits f_Q_Digits) exp)), a_1s⟩) (DBig.mk a_2 ⟨(Fr.rE (True) (Un.tm (Fr.fq a_P_Sign a_P_Digits a_Q_Digits) (Fr.fq f_P_Sign f_P_Digits f_Q_Digits) exp)), a_3s⟩))) (fun _ _ => by kernel_rfl) (fun _ _ => (Eq.trans (by kernel_rfl) (cong2 (fun (x0 : Int) (x2 : Int) => (.agg #[iv x0, a_1s.v, iv x2, a_3s.v] : Value)) e0 e2)).trans (by kernel_rfl)) (fun _ _ => trivial)
theorem utimes_ctv (a_P_Sign : Int) (a_P_Digits : List Int) (a_P_Digitss : SV) (a_Q_Sign : Int) (a_Q_Digits : List Int) (a_Q_Digitss : SV) (f_P_Sign : Int) (f_P_Digits : List Int) (f_P_Digitss : SV) (f_Q_Sign : Int) (f_Q_Digits : List Int) (f_Q_Digitss : SV) (exp : Int) (hFA : Fr.FrB a_P_Sign a_P_Digits a_Q_Sign a_Q_Digits) (hFF : Fr.FrB f_P_Sign f_P_Digits f_Q_Sign f_Q_Digits) (hf0 : f_P_Sign ≠ 0) (he : -9 ≤ exp ∧ exp ≤ 9) (hla : a_P_Digits.length ≤ 1000000 ∧ a_Q_Digits.length ≤ 1000000) (hlf : f_P_Digits.length ≤ 1000 ∧ f_Q_Digits.length ≤ 1000) (rv0 : Int) (erv0 : rv0 = Fr.rS (True) (Un.tm (Fr.fq a_P_Sign a_P_Digits a_Q_Digits) (Fr.fq f_P_Sign f_P_Digits f_Q_Digits) exp)) (rv1 : List Int) (erv1 : rv1 = Fr.rD (True) (Un.tm (Fr.fq a_P_Sign a_P_Digits a_Q_Digits) (Fr.fq f_P_Sign f_P_Digits f_Q_Digits) exp)) (rv2 : Int) (erv2 : rv2 = Fr.rT (True)) (rv3 : List Int) (erv3 : rv3 = Fr.rE (True) (Un.tm (Fr.fq a_P_Sign a_P_Digits a_Q_Digits) (Fr.fq f_P_Sign f_P_Digits f_Q_Digits) exp)) :
    Ct Try.prog 48 #[ag (DFrac.mk (DBig.mk a_P_Sign ⟨a_P_Digits, a_P_Digitss⟩) (DBig.mk a_Q_Sign ⟨a_Q_Digits, a_Q_Digitss⟩)), ag (DFrac.mk (DBig.mk f_P_Sign ⟨f_P_Digits, f_P_Digitss⟩) (DBig.mk f_Q_Sign ⟨f_Q_Digits, f_Q_Digitss⟩)), iv exp] [fs true a_P_Digits a_P_Digitss, fs true a_Q_Digits a_Q_Digitss, fs true f_P_Digits f_P_Digitss, fs true f_Q_Digits f_Q_Digitss] [] (fun g => ag (DFrac.mk (DBig.mk rv0 ⟨rv1, (g.ss 0)⟩) (DBig.mk rv2 ⟨rv3, (g.ss 1)⟩))) (fun g => [fs false rv1 (g.ss 0), fs false rv3 (g.ss 1)]) (fun g => []) (fun g => []) := by
  subst erv0 erv1 erv2 erv3; exact utimes_ct a_P_Sign a_P_Digits a_P_Digitss a_Q_Sign a_Q_Digits a_Q_Digitss f_P_Sign f_P_Digits f_P_Digitss f_Q_Sign f_Q_Digits f_Q_Digitss exp hFA hFF hf0 he hla hlf
set_option maxRecDepth 10000 in
theorem hasp_ct (s prefix_ : ByteArray) :
    Cp Try.prog 129 #[tv s, tv prefix_] [] (bv (decide (Dm.cpB s prefix_))) := by
  refine V.fn mo Try.func129 18 0 (by kernel_rfl) fun w H ε k0 => ?_
  clear k0
  refine V.g [.kb false] fun _ _ G1 => ?_
  intro S_ s_
  refine nm (s.extract (0 : Int).toNat (prefix_.size : Int).toNat : ByteArray) fun t1 ht1 => ?_
  have ht1n : t1.size = min (prefix_.size : Int).toNat s.size - (0 : Int).toNat := by rw [ht1, ByteArray.size_extract]
  refine nm ((decide ((prefix_.size : Int) ≤ (s.size : Int))) && (decide (t1 = prefix_)) : Bool) fun p1 hp1 => ?_
  refine V.g [.k (tv s),.k (iv (s.size : Int)),.k (tv prefix_),.k (iv (prefix_.size : Int)),.k (bv (decide ((prefix_.size : Int) ≤ (s.size : Int)))),.k (bv (decide ((prefix_.size : Int) ≤ (s.size : Int)))),.k (tv s),.k (tv prefix_),.k (iv (prefix_.size : Int)),.ssl (gT (b := decide ((prefix_.size : Int) ≤ (s.size : Int))) iDT) s none (some (prefix_.size : Int)) 0 (prefix_.size : Int) rfl rfl t1 ht1 (fun hg => ⟨by omega, by omega, by omega⟩),.k (tv prefix_),.seq t1 prefix_,.andn g0 false (decide ((prefix_.size : Int) ≤ (s.size : Int))) (decide (t1 = prefix_)) p1 hp1,.k (bv p1)] fun _ _ G2 => ?_
  intro S_ s_
  have e0 : p1 = decide (Dm.cpB s prefix_) := by
    refine Bool.eq_iff_iff.2 (Iff.trans (iN hp1 (iAT iDT iDT)) (Iff.trans ?_ decide_eq_true_iff.symm))
    rw [ht1]; exact Iff.rfl
  exact V.ret [0] [] [] [] [] [] (bv p1) (fun _ _ => by kernel_rfl) (fun _ _ => (Eq.trans (by kernel_rfl) (cong1 (fun (x0 : Bool) => (bv x0 : Value)) e0)).trans (by kernel_rfl)) (fun _ _ => trivial)
set_option maxRecDepth 10000 in
theorem slcut_ct (s prefix_ : ByteArray) :
    Cp Try.prog 114 #[tv s, tv prefix_] [] (.tuple #[tv (Dm.cpR s prefix_), bv (decide (Dm.cpB s prefix_))]) := by
  refine V.fn mo Try.func114 15 0 (by kernel_rfl) fun w H ε k0 => ?_
  clear k0
  refine V.g [.k (tv ByteArray.empty),.kb false] fun _ _ G1 => ?_
  intro S_ s_
  refine V.g [.k (tv s),.k (tv prefix_),.cp g0 2 129 [] (fun _ G => hasp_ct s prefix_),.k (bv (!(decide (Dm.cpB s prefix_))))] fun _ _ G2 => ?_
  intro S_ s_
  refine V.cond (b := !(decide (Dm.cpB s prefix_))) (iNT iDF) (iNF iDT) (by kernel_rfl) (fun q1 => ?_) (fun q2 => ?_)
  · refine V.g [.k (tv s),.k (tv s),.kb false] fun _ _ G3 => ?_
    intro S_ s_
    have e0 : s = Dm.cpR s prefix_ := (if_neg q1).symm
    have e1 : false = decide (Dm.cpB s prefix_) := (decide_eq_false q1).symm
    exact V.ret [0, 0] [] [] [] [] [] (.tuple #[tv s, bv false]) (fun _ _ => by kernel_rfl) (fun _ _ => (Eq.trans (by kernel_rfl) (cong2 (fun (x0 : ByteArray) (x1 : Bool) => (.tuple #[tv x0, bv x1] : Value)) e0 e1)).trans (by kernel_rfl)) (fun _ _ => trivial)
  have hB : Dm.cpB s prefix_ := by first | exact q2 | exact Decidable.not_not.1 q2
  have hB1 := hB.1
  refine nm (s.extract (prefix_.size : Int).toNat (s.size : Int).toNat : ByteArray) fun t1 ht1 => ?_
  have ht1n : t1.size = min (s.size : Int).toNat s.size - (prefix_.size : Int).toNat := by rw [ht1, ByteArray.size_extract]
  refine V.g [.k (tv s),.k (tv prefix_),.k (iv (prefix_.size : Int)),.ssl g0 s (some (prefix_.size : Int)) none (prefix_.size : Int) (s.size : Int) rfl rfl t1 ht1 (fun _ => ⟨by omega, by omega, by omega⟩),.k (tv t1),.kb true] fun _ _ G4 => ?_
  intro S_ s_
  have e0 : t1 = Dm.cpR s prefix_ := by unfold Dm.cpR; rw [if_pos hB, ht1]; rfl
  have e1 : true = decide (Dm.cpB s prefix_) := (decide_eq_true hB).symm
  exact V.ret [0, 0] [] [] [] [] [] (.tuple #[tv t1, bv true]) (fun _ _ => by kernel_rfl) (fun _ _ => (Eq.trans (by kernel_rfl) (cong2 (fun (x0 : ByteArray) (x1 : Bool) => (.tuple #[tv x0, bv x1] : Value)) e0 e1)).trans (by kernel_rfl)) (fun _ _ => trivial)
theorem slcut_ctv (s prefix_ : ByteArray) (rv0 : ByteArray) (erv0 : rv0 = Dm.cpR s prefix_) :
    Cp Try.prog 114 #[tv s, tv prefix_] [] (.tuple #[tv rv0, bv (decide (Dm.cpB s prefix_))]) := by
  subst erv0; exact slcut_ct s prefix_ 
set_option maxRecDepth 10000 in
theorem cutp_ct (s prefix_ : ByteArray) :
    Cp Try.prog 78 #[tv s, tv prefix_] [] (.tuple #[tv (Dm.cpR s prefix_), bv (decide (Dm.cpB s prefix_))]) := by
  refine V.fn mo Try.func78 11 0 (by kernel_rfl) fun w H ε k0 => ?_
  clear k0
  refine V.g [.k (tv ByteArray.empty),.kb false] fun _ _ G1 => ?_
  intro S_ s_
  refine nm (Dm.cpR s prefix_ : ByteArray) fun t1 ht1 => ?_
  refine V.g [.k (tv s),.k (tv prefix_),.cp g0 2 114 [] (fun _ G => slcut_ctv s prefix_ t1 ht1),.k (tv t1),.k (bv (decide (Dm.cpB s prefix_))),.k (tv t1),.k (bv (decide (Dm.cpB s prefix_)))] fun _ _ G2 => ?_
  intro S_ s_
  have e0 : t1 = Dm.cpR s prefix_ := ht1
  exact V.ret [0, 0] [] [] [] [] [] (.tuple #[tv t1, bv (decide (Dm.cpB s prefix_))]) (fun _ _ => by kernel_rfl) (fun _ _ => (Eq.trans (by kernel_rfl) (cong1 (fun (x0 : ByteArray) => (.tuple #[tv x0, bv (decide (Dm.cpB s prefix_))] : Value)) e0)).trans (by kernel_rfl)) (fun _ _ => trivial)
theorem cutp_ctv (s prefix_ : ByteArray) (rv0 : ByteArray) (erv0 : rv0 = Dm.cpR s prefix_) :
    Cp Try.prog 78 #[tv s, tv prefix_] [] (.tuple #[tv rv0, bv (decide (Dm.cpB s prefix_))]) := by
  subst erv0; exact cutp_ct s prefix_ 
set_option maxRecDepth 10000 in
theorem uitems_ct (s : ByteArray) (hs : s.size ≤ 1000000) :
    Ct Try.prog 45 #[tv s] [] [] (fun g => .tuple #[((g.ss 0)).v, bv ((Un.items s).isSome)]) (fun g => [fs true ((Un.items s).getD []) (g.ss 0)]) (fun g => []) (fun g => []) := by
  refine V.fn mo Try.func45 58 2 (by kernel_rfl) fun w H ε k0 => ?_
  clear k0
  refine V.g [.k (.slice none 0 0),.kb false] fun _ _ G1 => ?_
  intro S_ s_
  refine V.g [.k (.slice none 0 0)] fun _ _ G2 => ?_
  intro S_ s_
  refine V.g [.k (tv s),.seq s ByteArray.empty] fun _ _ G3 => ?_
  intro S_ s_
  refine V.cond (b := decide (s = ByteArray.empty)) iDT iDF (by kernel_rfl) (fun q1 => ?_) (fun q2 => ?_)
  · refine V.g [.k (.slice none 0 0),.kb true] fun _ _ G4 => ?_
    intro S_ s_
    refine V.nilF (α := Ditem) ?_
    have e0 : ([] : List Ditem) = (Un.items s).getD [] := by rw [Un.items_nil q1]; rfl
    rw [← e0]
    have e1 : true = (Un.items s).isSome := by rw [Un.items_nil q1]; rfl
    exact V.ret [0, 0] [{}] [fun _ => {}] [] [0] [] (.tuple #[SV.v ({}), bv true]) (fun _ _ => by kernel_rfl) (fun _ _ => (Eq.trans (by kernel_rfl) (cong1 (fun (x1 : Bool) => (.tuple #[SV.v ({}), bv x1] : Value)) e1)).trans (by kernel_rfl)) (fun _ _ => trivial)
  have hne : ¬ s = ByteArray.empty := q2
  refine V.g [.k (tv s),.k (iv (s.size : Int)),.k (bv (decide (40 < (s.size : Int))))] fun _ _ G5 => ?_
  intro S_ s_
  refine V.cond (b := decide (40 < (s.size : Int))) iDT iDF (by kernel_rfl) (fun q3 => ?_) (fun q4 => ?_)
  · refine V.g [.k (.slice none 0 0),.kb false] fun _ _ G6 => ?_
    intro S_ s_
    refine V.nilF (α := Ditem) ?_
    have e0 : ([] : List Ditem) = (Un.items s).getD [] := by rw [Un.items_far hne (by omega)]; rfl
    rw [← e0]
    have e1 : false = (Un.items s).isSome := by rw [Un.items_far hne (by omega)]; rfl
    exact V.ret [0, 0] [{}] [fun _ => {}] [] [0] [] (.tuple #[SV.v ({}), bv false]) (fun _ _ => by kernel_rfl) (fun _ _ => (Eq.trans (by kernel_rfl) (cong1 (fun (x1 : Bool) => (.tuple #[SV.v ({}), bv x1] : Value)) e1)).trans (by kernel_rfl)) (fun _ _ => trivial)
  refine nm (Dm.cpR s ⟨#[49]⟩ : ByteArray) fun t1 ht1 => ?_
  refine V.g [.k (tv s),.cp g0 1 78 [] (fun _ G => cutp_ctv s ⟨#[49]⟩ t1 ht1),.k (.tuple #[tv t1, bv (decide (Dm.cpB s ⟨#[49]⟩))]),.k (tv t1),.k (bv (decide (Dm.cpB s ⟨#[49]⟩))),.k (tv t1),.k (bv (decide (Dm.cpB s ⟨#[49]⟩)))] fun _ _ G7 => ?_
  intro S_ s_
  refine V.g [.k (bv (decide (Dm.cpB s ⟨#[49]⟩))),.k (bv (!(decide (Dm.cpB s ⟨#[49]⟩))))] fun _ _ G8 => ?_
  intro S_ s_
  refine V.cond (b := !(decide (Dm.cpB s ⟨#[49]⟩))) (iNT iDF) (iNF iDT) (by kernel_rfl) (fun q5 => ?_) (fun q6 => ?_)
  · have hz1 : (⟨#[42]⟩ : ByteArray).size = 1 := rfl
    refine nm ((⟨#[42]⟩ : ByteArray) ++ s : ByteArray) fun t2 ht2 => ?_
    have ht2n : t2.size = (⟨#[42]⟩ : ByteArray).size + s.size := by rw [ht2, ByteArray.size_append]
    refine V.g [.k (tv s),.sad g0 ⟨#[42]⟩ s t2 ht2 (fun _ => by omega),.k (tv t2)] fun _ _ G9 => ?_
    intro S_ s_
    refine V.on (α := Ditem) 1 80 (by kernel_rfl) ?_
    refine V.loop (γ := List Ditem × SV × ByteArray) (fun ⟨out, outs, rest⟩ => ⟨[(4, outs.v), (5, tv rest)], [], [.no, os true 80 out outs]⟩) (fun ⟨out, outs, rest⟩ => (Un.itA out rest = Un.items s) ∧ (rest.size + out.length ≤ 41)) (fun ⟨out, outs, rest⟩ => rest.size) (([] : List Ditem), {}, t2) (by kernel_rfl) [] (by kernel_rfl) ?_ ?_
    · refine ⟨?_, ?_⟩
      · show Un.itA ([] : List Ditem) t2 = Un.items s
        exact ((Un.items_is hne (by omega)).trans (congrArg (Un.itA []) (by unfold Un.start; rw [ht2]; first | exact if_neg q5 | exact if_pos q5))).symm
      show t2.size + ([] : List Ditem).length ≤ 41
      show _ + 0 ≤ 41; first | (have := Dm.cpR_size (s := s) (p := ⟨#[49]⟩); rw [← ht2] at this; omega) | omega
    rintro ⟨out, outs, rest⟩ hF1 kw10 Z1 hZ1
    have hF1 : (Un.itA out rest = Un.items s) ∧ (rest.size + out.length ≤ 41) := hF1
    obtain ⟨hf1, hf2⟩ := hF1
    obtain ⟨⟨kl1, -⟩, -⟩ : Lq out outs.v ∧ True := kn kw10 (by kernel_rfl)
    clear kw10
    refine V.g [.k (tv rest),.sne rest ByteArray.empty] fun _ _ G10 => ?_
    intro S_ s_
    refine V.cond (b := !(decide (rest = ByteArray.empty))) (iNT iDF) (iNF iDT) (by kernel_rfl) (fun q7 => ?_) (fun q8 => ?_)
    · have hrn : ¬ rest = ByteArray.empty := q7
      have hrz := Dm.size_ne hrn
      refine nm ((bl rest).getD (0 : Int).toNat default : UInt8) fun c1 hc1 => ?_
      refine V.g [.k (tv rest),.sid g0 rest (0 : Int) c1 hc1 (fun _ => ⟨by omega, by omega⟩),.k (.int .u8 (c1.toNat : Int))] fun _ _ G11 => ?_
      intro S_ s_
      have hcd : (bl rest).getD 0 default = c1 := hc1.symm
      refine nm (rest.extract (1 : Int).toNat (rest.size : Int).toNat : ByteArray) fun t3 ht3 => ?_
      have ht3n : t3.size = min (rest.size : Int).toNat rest.size - (1 : Int).toNat := by rw [ht3, ByteArray.size_extract]
      refine nm (Un.cuW t3 : ByteArray) fun t4 ht4 => ?_
      refine nm (Un.cuE t3 : Int) fun n1 hn1 => ?_
      refine nm (Un.cuR t3 : ByteArray) fun t5 ht5 => ?_
      refine V.g [.k (tv rest),.ssl g0 rest (some (1 : Int)) none 1 (rest.size : Int) rfl rfl t3 ht3 (fun _ => ⟨by omega, by omega, by omega⟩),.cp g0 2 79 [] (fun _ G => ucut_ctv t3 (by omega) t4 ht4 n1 hn1 t5 ht5),.k (.tuple #[ag (Ditem.mk t4 n1), tv t5, bv (decide (0 < Un.nl t3))]),.k (ag (Ditem.mk t4 n1)),.k (tv t5),.k (bv (decide (0 < Un.nl t3))),.nb 7 0 (fun b => pp b 0) 80 (fun _ => ca (Ditem.mk ByteArray.empty 0)),.st 0 (fun G => .blk ((G 7).b) (ca (Ditem.mk t4 n1)) 80),.k (tv t5),.k (bv (decide (0 < Un.nl t3)))] fun _ _ G12 => ?_
      intro S_ s_
      have htd : rest.extract 1 rest.size = t3 := ht3.symm
      have hgd : Un.good rest = (0 < Un.nl t3 ∧ ((c1.toNat : Int) = 42 ∨ (c1.toNat : Int) = 47)) := by unfold Un.good; rw [htd, hcd]
      have hcz := Un.cuR_size t3
      have hcz0 := Un.cuR_size t3
      have hce := Un.cuE_rg t3
      rw [← ht5] at hcz
      rw [← hn1] at hce
      refine nm ((!(decide ((c1.toNat : Int) = 42))) && (!(decide ((c1.toNat : Int) = 47))) : Bool) fun p1 hp1 => ?_
      refine V.g [.k (bv (decide (0 < Un.nl t3))),.k (bv (!(decide (0 < Un.nl t3)))),.k (bv (!(decide (0 < Un.nl t3)))),.k (.int .u8 (c1.toNat : Int)),.k (bv (!(decide ((c1.toNat : Int) = 42)))),.k (bv (!(decide ((c1.toNat : Int) = 42)))),.k (.int .u8 (c1.toNat : Int)),.k (bv (!(decide ((c1.toNat : Int) = 47)))),.andn (gF (b := !(decide (0 < Un.nl t3))) (iNF iDT)) false (!(decide ((c1.toNat : Int) = 42))) (!(decide ((c1.toNat : Int) = 47))) p1 hp1,.or g0 false (!(decide (0 < Un.nl t3))) p1] fun _ _ G13 => ?_
      intro S_ s_
      refine V.cond (b := (!(decide (0 < Un.nl t3))) || p1) (iOT (iNT iDF) (iN hp1 (iAT (iNT iDF) (iNT iDF)))) (iOF (iNF iDT) (iN hp1 (iAF (iNF iDT) (iNF iDT)))) (by kernel_rfl) (fun q9 => ?_) (fun q10 => ?_)
      · have hbad : Un.items s = none := by rw [← hf1]; exact Un.itA_bad hrn (by rw [hgd]; rintro ⟨h1, h2⟩; have hqq := q9; rcases hqq with h | ⟨h3, h4⟩; exact h h1; rcases h2 with h2 | h2; exact h3 h2; exact h4 h2)
        refine V.g [.k (.slice none 0 0),.kb false] fun _ _ G14 => ?_
        intro S_ s_
        refine V.nilF (α := Ditem) ?_
        have e0 : ([] : List Ditem) = (Un.items s).getD [] := by rw [hbad]; rfl
        rw [← e0]
        have e1 : false = (Un.items s).isSome := by rw [hbad]; rfl
        exact V.ret [0, 0] [{}] [fun _ => {}] [] [0] [] (.tuple #[SV.v ({}), bv false]) (fun _ _ => by kernel_rfl) (fun _ _ => (Eq.trans (by kernel_rfl) (cong1 (fun (x1 : Bool) => (.tuple #[SV.v ({}), bv x1] : Value)) e1)).trans (by kernel_rfl)) (fun _ _ => trivial)
      have hgg : Un.good rest := by rw [hgd]; exact q10
      have hgp := (q10).1
      refine V.g [.k (.int .u8 (c1.toNat : Int)),.k (bv (decide ((c1.toNat : Int) = 47)))] fun _ _ G15 => ?_
      intro S_ s_
      refine V.cond (b := decide ((c1.toNat : Int) = 47)) iDT iDF (by kernel_rfl) (fun q11 => ?_) (fun q12 => ?_)
      · have hx : Ditem.mk t4 (-n1) = Un.itm ((bl rest).getD 0 default) t3 := by rw [hcd]; unfold Un.itm; rw [if_pos q11, ht4, hn1]
        refine V.g [.k (pp ((G12 7).b) 1),.ld 0 1 false (fun _ => [iv n1]),.ng n1 (-n1) rfl (by omega) (by omega),.k (pp ((G12 7).b) 1),.st 0 (fun _ => .blk ((G12 7).b) (ca (Ditem.mk t4 (-n1))) 80)] fun _ _ G16 => ?_
        intro S_ s_
        refine nm (out ++ ([Ditem.mk t4 (-n1)] : List Ditem) : List Ditem) fun l1 hl1 => ?_
        have hl1n := congrArg List.length hl1; try simp only [List.length_append, List.length_cons, List.length_nil, List.length_replicate, List.length_set, List.length_take, List.length_drop, List.length_map, List.length_reverse, List.length_range] at hl1n
        refine V.r [.k (outs.v),.ld 0 0 true (fun _ => Dat.cells (Ditem.mk t4 (-n1))),.nr 2 true 80 ([Ditem.mk t4 (-n1)] : List Ditem) [] (fun _ _ _ _ _ => trivial) (fun _ => #[tv t4, iv (-n1)]),.ap 3 1 80 24 false true out (fun _ => outs) (kf true (.g 2 0) ([Ditem.mk t4 (-n1)] : List Ditem) (fun G => ⟨atB (G 2).b, 1, 1⟩)) true l1 hl1 (by (try simp only [List.length_append, List.length_cons, List.length_nil, List.length_replicate, List.length_set, List.length_take, List.length_drop, List.length_map, List.length_reverse, List.length_range]); omega) (fun h => by cases h) (.inr fun _ _ => trivial),.k (tv t5),.v fun G => ((G 3).s).v,.k (tv t5)] fun _ _ G17 kw18 => ?_
        intro S_ s_
        obtain ⟨⟨kl2, -⟩, -⟩ : Lq ([Ditem.mk t4 (-n1)] : List Ditem) (SV.v ⟨atB (G17 2).b, 1, 1⟩) ∧ Lq l1 (((G17 3).s).v) ∧ True := kn kw18 (by kernel_rfl)
        clear kw18
        refine V.rnd hZ1 (l1, (G17 3).s, t5) [] (by kernel_rfl) ?_ ?_
        · refine ⟨?_, ?_⟩
          · show Un.itA l1 t5 = Un.items s
            rw [hl1, ht5]; exact (Un.itA_step hrn hgg ht3 hx).trans hf1
          show t5.size + l1.length ≤ 41
          omega
        show t5.size < rest.size
        rw [ht5]
        omega
      have hx : Ditem.mk t4 (n1) = Un.itm ((bl rest).getD 0 default) t3 := by rw [hcd]; unfold Un.itm; rw [if_neg q12, ht4, hn1]
      refine nm (out ++ ([Ditem.mk t4 n1] : List Ditem) : List Ditem) fun l2 hl2 => ?_
      have hl2n := congrArg List.length hl2; try simp only [List.length_append, List.length_cons, List.length_nil, List.length_replicate, List.length_set, List.length_take, List.length_drop, List.length_map, List.length_reverse, List.length_range] at hl2n
      refine V.r [.k (outs.v),.ld 0 0 true (fun _ => Dat.cells (Ditem.mk t4 n1)),.nr 2 true 80 ([Ditem.mk t4 n1] : List Ditem) [] (fun _ _ _ _ _ => trivial) (fun _ => #[tv t4, iv n1]),.ap 3 1 80 24 false true out (fun _ => outs) (kf true (.g 2 0) ([Ditem.mk t4 n1] : List Ditem) (fun G => ⟨atB (G 2).b, 1, 1⟩)) true l2 hl2 (by (try simp only [List.length_append, List.length_cons, List.length_nil, List.length_replicate, List.length_set, List.length_take, List.length_drop, List.length_map, List.length_reverse, List.length_range]); omega) (fun h => by cases h) (.inr fun _ _ => trivial),.k (tv t5),.v fun G => ((G 3).s).v,.k (tv t5)] fun _ _ G18 kw19 => ?_
      intro S_ s_
      obtain ⟨⟨kl3, -⟩, -⟩ : Lq ([Ditem.mk t4 n1] : List Ditem) (SV.v ⟨atB (G18 2).b, 1, 1⟩) ∧ Lq l2 (((G18 3).s).v) ∧ True := kn kw19 (by kernel_rfl)
      clear kw19
      refine V.rnd hZ1 (l2, (G18 3).s, t5) [] (by kernel_rfl) ?_ ?_
      · refine ⟨?_, ?_⟩
        · show Un.itA l2 t5 = Un.items s
          rw [hl2, ht5]; exact (Un.itA_step hrn hgg ht3 hx).trans hf1
        show t5.size + l2.length ≤ 41
        omega
      show t5.size < rest.size
      rw [ht5]
      omega
    have hfin := hf1.symm.trans (Un.itA_end q8)
    refine V.g [.k (outs.v),.k (outs.v),.kb true] fun _ _ G19 => ?_
    intro S_ s_
    refine V.frz 1 true 80 out outs (by kernel_rfl) ?_
    have e0 : out = (Un.items s).getD [] := by rw [hfin]; rfl
    subst e0
    have e1 : true = (Un.items s).isSome := by rw [hfin]; rfl
    exact V.ret [0, 0] [outs] [fun _ => {}] [] [0] [] (.tuple #[outs.v, bv true]) (fun _ _ => by kernel_rfl) (fun _ _ => (Eq.trans (by kernel_rfl) (cong1 (fun (x1 : Bool) => (.tuple #[outs.v, bv x1] : Value)) e1)).trans (by kernel_rfl)) (fun _ _ => trivial)
  refine V.on (α := Ditem) 1 80 (by kernel_rfl) ?_
  refine V.loop (γ := List Ditem × SV × ByteArray) (fun ⟨out_1, out_1s, rest_1⟩ => ⟨[(4, out_1s.v), (5, tv rest_1)], [], [.no, os true 80 out_1 out_1s]⟩) (fun ⟨out_1, out_1s, rest_1⟩ => (Un.itA out_1 rest_1 = Un.items s) ∧ (rest_1.size + out_1.length ≤ 41)) (fun ⟨out_1, out_1s, rest_1⟩ => rest_1.size) (([] : List Ditem), {}, t1) (by kernel_rfl) [] (by kernel_rfl) ?_ ?_
  · refine ⟨?_, ?_⟩
    · show Un.itA ([] : List Ditem) t1 = Un.items s
      exact ((Un.items_is hne (by omega)).trans (congrArg (Un.itA []) (by unfold Un.start; rw [ht1]; first | exact if_neg q6 | exact if_pos q6))).symm
    show t1.size + ([] : List Ditem).length ≤ 41
    show _ + 0 ≤ 41; first | (have := Dm.cpR_size (s := s) (p := ⟨#[49]⟩); rw [← ht1] at this; omega) | omega
  rintro ⟨out_1, out_1s, rest_1⟩ hF2 kw21 Z2 hZ2
  have hF2 : (Un.itA out_1 rest_1 = Un.items s) ∧ (rest_1.size + out_1.length ≤ 41) := hF2
  obtain ⟨hf3, hf4⟩ := hF2
  obtain ⟨⟨kl4, -⟩, -⟩ : Lq out_1 out_1s.v ∧ True := kn kw21 (by kernel_rfl)
  clear kw21
  refine V.g [.k (tv rest_1),.sne rest_1 ByteArray.empty] fun _ _ G20 => ?_
  intro S_ s_
  refine V.cond (b := !(decide (rest_1 = ByteArray.empty))) (iNT iDF) (iNF iDT) (by kernel_rfl) (fun q13 => ?_) (fun q14 => ?_)
  · have hrn : ¬ rest_1 = ByteArray.empty := q13
    have hrz := Dm.size_ne hrn
    refine nm ((bl rest_1).getD (0 : Int).toNat default : UInt8) fun c2 hc2 => ?_
    refine V.g [.k (tv rest_1),.sid g0 rest_1 (0 : Int) c2 hc2 (fun _ => ⟨by omega, by omega⟩),.k (.int .u8 (c2.toNat : Int))] fun _ _ G21 => ?_
    intro S_ s_
    have hcd : (bl rest_1).getD 0 default = c2 := hc2.symm
    refine nm (rest_1.extract (1 : Int).toNat (rest_1.size : Int).toNat : ByteArray) fun t6 ht6 => ?_
    have ht6n : t6.size = min (rest_1.size : Int).toNat rest_1.size - (1 : Int).toNat := by rw [ht6, ByteArray.size_extract]
    refine nm (Un.cuW t6 : ByteArray) fun t7 ht7 => ?_
    refine nm (Un.cuE t6 : Int) fun n2 hn2 => ?_
    refine nm (Un.cuR t6 : ByteArray) fun t8 ht8 => ?_
    refine V.g [.k (tv rest_1),.ssl g0 rest_1 (some (1 : Int)) none 1 (rest_1.size : Int) rfl rfl t6 ht6 (fun _ => ⟨by omega, by omega, by omega⟩),.cp g0 2 79 [] (fun _ G => ucut_ctv t6 (by omega) t7 ht7 n2 hn2 t8 ht8),.k (.tuple #[ag (Ditem.mk t7 n2), tv t8, bv (decide (0 < Un.nl t6))]),.k (ag (Ditem.mk t7 n2)),.k (tv t8),.k (bv (decide (0 < Un.nl t6))),.nb 7 0 (fun b => pp b 0) 80 (fun _ => ca (Ditem.mk ByteArray.empty 0)),.st 0 (fun G => .blk ((G 7).b) (ca (Ditem.mk t7 n2)) 80),.k (tv t8),.k (bv (decide (0 < Un.nl t6)))] fun _ _ G22 => ?_
    intro S_ s_
    have htd : rest_1.extract 1 rest_1.size = t6 := ht6.symm
    have hgd : Un.good rest_1 = (0 < Un.nl t6 ∧ ((c2.toNat : Int) = 42 ∨ (c2.toNat : Int) = 47)) := by unfold Un.good; rw [htd, hcd]
    have hcz := Un.cuR_size t6
    have hcz0 := Un.cuR_size t6
    have hce := Un.cuE_rg t6
    rw [← ht8] at hcz
    rw [← hn2] at hce
    refine nm ((!(decide ((c2.toNat : Int) = 42))) && (!(decide ((c2.toNat : Int) = 47))) : Bool) fun p2 hp2 => ?_
    refine V.g [.k (bv (decide (0 < Un.nl t6))),.k (bv (!(decide (0 < Un.nl t6)))),.k (bv (!(decide (0 < Un.nl t6)))),.k (.int .u8 (c2.toNat : Int)),.k (bv (!(decide ((c2.toNat : Int) = 42)))),.k (bv (!(decide ((c2.toNat : Int) = 42)))),.k (.int .u8 (c2.toNat : Int)),.k (bv (!(decide ((c2.toNat : Int) = 47)))),.andn (gF (b := !(decide (0 < Un.nl t6))) (iNF iDT)) false (!(decide ((c2.toNat : Int) = 42))) (!(decide ((c2.toNat : Int) = 47))) p2 hp2,.or g0 false (!(decide (0 < Un.nl t6))) p2] fun _ _ G23 => ?_
    intro S_ s_
    refine V.cond (b := (!(decide (0 < Un.nl t6))) || p2) (iOT (iNT iDF) (iN hp2 (iAT (iNT iDF) (iNT iDF)))) (iOF (iNF iDT) (iN hp2 (iAF (iNF iDT) (iNF iDT)))) (by kernel_rfl) (fun q15 => ?_) (fun q16 => ?_)
    · have hbad : Un.items s = none := by rw [← hf3]; exact Un.itA_bad hrn (by rw [hgd]; rintro ⟨h1, h2⟩; have hqq := q15; rcases hqq with h | ⟨h3, h4⟩; exact h h1; rcases h2 with h2 | h2; exact h3 h2; exact h4 h2)
      refine V.g [.k (.slice none 0 0),.kb false] fun _ _ G24 => ?_
      intro S_ s_
      refine V.nilF (α := Ditem) ?_
      have e0 : ([] : List Ditem) = (Un.items s).getD [] := by rw [hbad]; rfl
      rw [← e0]
      have e1 : false = (Un.items s).isSome := by rw [hbad]; rfl
      exact V.ret [0, 0] [{}] [fun _ => {}] [] [0] [] (.tuple #[SV.v ({}), bv false]) (fun _ _ => by kernel_rfl) (fun _ _ => (Eq.trans (by kernel_rfl) (cong1 (fun (x1 : Bool) => (.tuple #[SV.v ({}), bv x1] : Value)) e1)).trans (by kernel_rfl)) (fun _ _ => trivial)
    have hgg : Un.good rest_1 := by rw [hgd]; exact q16
    have hgp := (q16).1
    refine V.g [.k (.int .u8 (c2.toNat : Int)),.k (bv (decide ((c2.toNat : Int) = 47)))] fun _ _ G25 => ?_
    intro S_ s_
    refine V.cond (b := decide ((c2.toNat : Int) = 47)) iDT iDF (by kernel_rfl) (fun q17 => ?_) (fun q18 => ?_)
    · have hx : Ditem.mk t7 (-n2) = Un.itm ((bl rest_1).getD 0 default) t6 := by rw [hcd]; unfold Un.itm; rw [if_pos q17, ht7, hn2]
      refine V.g [.k (pp ((G22 7).b) 1),.ld 0 1 false (fun _ => [iv n2]),.ng n2 (-n2) rfl (by omega) (by omega),.k (pp ((G22 7).b) 1),.st 0 (fun _ => .blk ((G22 7).b) (ca (Ditem.mk t7 (-n2))) 80)] fun _ _ G26 => ?_
      intro S_ s_
      refine nm (out_1 ++ ([Ditem.mk t7 (-n2)] : List Ditem) : List Ditem) fun l3 hl3 => ?_
      have hl3n := congrArg List.length hl3; try simp only [List.length_append, List.length_cons, List.length_nil, List.length_replicate, List.length_set, List.length_take, List.length_drop, List.length_map, List.length_reverse, List.length_range] at hl3n
      refine V.r [.k (out_1s.v),.ld 0 0 true (fun _ => Dat.cells (Ditem.mk t7 (-n2))),.nr 2 true 80 ([Ditem.mk t7 (-n2)] : List Ditem) [] (fun _ _ _ _ _ => trivial) (fun _ => #[tv t7, iv (-n2)]),.ap 3 1 80 24 false true out_1 (fun _ => out_1s) (kf true (.g 2 0) ([Ditem.mk t7 (-n2)] : List Ditem) (fun G => ⟨atB (G 2).b, 1, 1⟩)) true l3 hl3 (by (try simp only [List.length_append, List.length_cons, List.length_nil, List.length_replicate, List.length_set, List.length_take, List.length_drop, List.length_map, List.length_reverse, List.length_range]); omega) (fun h => by cases h) (.inr fun _ _ => trivial),.k (tv t8),.v fun G => ((G 3).s).v,.k (tv t8)] fun _ _ G27 kw29 => ?_
      intro S_ s_
      obtain ⟨⟨kl5, -⟩, -⟩ : Lq ([Ditem.mk t7 (-n2)] : List Ditem) (SV.v ⟨atB (G27 2).b, 1, 1⟩) ∧ Lq l3 (((G27 3).s).v) ∧ True := kn kw29 (by kernel_rfl)
      clear kw29
      refine V.rnd hZ2 (l3, (G27 3).s, t8) [] (by kernel_rfl) ?_ ?_
      · refine ⟨?_, ?_⟩
        · show Un.itA l3 t8 = Un.items s
          rw [hl3, ht8]; exact (Un.itA_step hrn hgg ht6 hx).trans hf3
        show t8.size + l3.length ≤ 41
        omega
      show t8.size < rest_1.size
      rw [ht8]
      omega
    have hx : Ditem.mk t7 (n2) = Un.itm ((bl rest_1).getD 0 default) t6 := by rw [hcd]; unfold Un.itm; rw [if_neg q18, ht7, hn2]
    refine nm (out_1 ++ ([Ditem.mk t7 n2] : List Ditem) : List Ditem) fun l4 hl4 => ?_
    have hl4n := congrArg List.length hl4; try simp only [List.length_append, List.length_cons, List.length_nil, List.length_replicate, List.length_set, List.length_take, List.length_drop, List.length_map, List.length_reverse, List.length_range] at hl4n
    refine V.r [.k (out_1s.v),.ld 0 0 true (fun _ => Dat.cells (Ditem.mk t7 n2)),.nr 2 true 80 ([Ditem.mk t7 n2] : List Ditem) [] (fun _ _ _ _ _ => trivial) (fun _ => #[tv t7, iv n2]),.ap 3 1 80 24 false true out_1 (fun _ => out_1s) (kf true (.g 2 0) ([Ditem.mk t7 n2] : List Ditem) (fun G => ⟨atB (G 2).b, 1, 1⟩)) true l4 hl4 (by (try simp only [List.length_append, List.length_cons, List.length_nil, List.length_replicate, List.length_set, List.length_take, List.length_drop, List.length_map, List.length_reverse, List.length_range]); omega) (fun h => by cases h) (.inr fun _ _ => trivial),.k (tv t8),.v fun G => ((G 3).s).v,.k (tv t8)] fun _ _ G28 kw30 => ?_
    intro S_ s_
    obtain ⟨⟨kl6, -⟩, -⟩ : Lq ([Ditem.mk t7 n2] : List Ditem) (SV.v ⟨atB (G28 2).b, 1, 1⟩) ∧ Lq l4 (((G28 3).s).v) ∧ True := kn kw30 (by kernel_rfl)
    clear kw30
    refine V.rnd hZ2 (l4, (G28 3).s, t8) [] (by kernel_rfl) ?_ ?_
    · refine ⟨?_, ?_⟩
      · show Un.itA l4 t8 = Un.items s
        rw [hl4, ht8]; exact (Un.itA_step hrn hgg ht6 hx).trans hf3
      show t8.size + l4.length ≤ 41
      omega
    show t8.size < rest_1.size
    rw [ht8]
    omega
  have hfin := hf3.symm.trans (Un.itA_end q14)
  refine V.g [.k (out_1s.v),.k (out_1s.v),.kb true] fun _ _ G29 => ?_
  intro S_ s_
  refine V.frz 1 true 80 out_1 out_1s (by kernel_rfl) ?_
  have e0 : out_1 = (Un.items s).getD [] := by rw [hfin]; rfl
  subst e0
  have e1 : true = (Un.items s).isSome := by rw [hfin]; rfl
  exact V.ret [0, 0] [out_1s] [fun _ => {}] [] [0] [] (.tuple #[out_1s.v, bv true]) (fun _ _ => by kernel_rfl) (fun _ _ => (Eq.trans (by kernel_rfl) (cong1 (fun (x1 : Bool) => (.tuple #[out_1s.v, bv x1] : Value)) e1)).trans (by kernel_rfl)) (fun _ _ => trivial)
theorem uitems_ctv (s : ByteArray) (hs : s.size ≤ 1000000) (rv0 : List Ditem) (erv0 : rv0 = (Un.items s).getD []) :
    Ct Try.prog 45 #[tv s] [] [] (fun g => .tuple #[((g.ss 0)).v, bv ((Un.items s).isSome)]) (fun g => [fs true rv0 (g.ss 0)]) (fun g => []) (fun g => []) := by
  subst erv0; exact uitems_ct s hs

open Go
theorem V.unrollL {P : Program} {E : Env P} {S : Stop} {t : St} (n : Nat) (hk : S = .loop S.x S.K) (k : let L := S; V E (norm 200 (.inl L.x) (.rndN L.x n :: L.K)) t) : V E S t := V.unroll n hk k
theorem V.againL {P : Program} {E : Env P} (L : Stop) {S : Stop} {t : St} (n : Nat) (hk : S = .rndN L.x (n + 1) L.K) (k : V E (norm 200 (.inl L.x) (.rndN L.x n :: L.K)) t) : V E S t := fun N ε a w hin => by
  rw [hk]
  exact norm_sound 200 (.inl L.x) (.rndN L.x n :: L.K) a w (k N ε a w hin)

open Go Go.Proofs
set_option maxRecDepth 10000 in
set_option maxHeartbeats 4000000 in
theorem uread_ct (s : ByteArray) (hs : s.size ≤ 1000000) :
    Ct Try.prog 13 #[tv s] [] [] (fun g => .tuple #[.agg #[iv (Un.dv ((Un.read s).1) 0), iv (Un.dv ((Un.read s).1) 1), iv (Un.dv ((Un.read s).1) 2), iv (Un.dv ((Un.read s).1) 3), iv (Un.dv ((Un.read s).1) 4), iv (Un.dv ((Un.read s).1) 5), iv (Fr.rS (((Un.read s).1).isSome = true) (Un.fv ((Un.read s).1))), ((g.ss 0)).v, iv (Fr.rT (((Un.read s).1).isSome = true)), ((g.ss 1)).v], iv ((Un.read s).2)]) (fun g => [fs true (Fr.rD (((Un.read s).1).isSome = true) (Un.fv ((Un.read s).1))) (g.ss 0), fs true (Fr.rE (((Un.read s).1).isSome = true) (Un.fv ((Un.read s).1))) (g.ss 1)]) (fun g => []) (fun g => []) := by
  refine V.fn mo Try.func13 71 4 (by kernel_rfl) fun w H ε k0 => ?_
  clear k0
  refine V.g [.nb 0 0 (fun b => pp b 0) 32 (fun _ => #[iv 0, iv 0, iv 0, iv 0, iv 0, iv 0, iv 0, .slice none 0 0, iv 0, .slice none 0 0]),.k (iv 0)] fun _ _ G1 => ?_
  intro S_ s_
  refine nm ((Un.items s).getD [] : List Ditem) fun l1 hl1 => ?_
  have hl1n := congrArg List.length hl1
  refine V.r [.k (tv s),.ct g0 1 45 false [] [] [] (fun _ G => uitems_ctv s (by omega) l1 hl1),.v fun G => .tuple #[((G 1).ss 0).v, bv ((Un.items s).isSome)],.v fun G => ((G 1).ss 0).v,.k (bv ((Un.items s).isSome)),.v fun G => ((G 1).ss 0).v,.k (bv ((Un.items s).isSome))] fun _ _ G2 kw2 => ?_
  intro S_ s_
  obtain ⟨⟨kl1, -⟩, -⟩ : Lq l1 (((G2 1).ss 0).v) ∧ True := kn kw2 (by kernel_rfl)
  clear kw2
  refine V.g [.k (bv ((Un.items s).isSome)),.k (bv (!((Un.items s).isSome)))] fun _ _ G3 => ?_
  intro S_ s_
  refine V.cond (b := !((Un.items s).isSome)) (iNT Iff.rfl) (iNF Iff.rfl) (by kernel_rfl) (fun q1 => ?_) (fun q2 => ?_)
  · have hrd := Un.read_syn (s := s) (by have hqq := q1; simpa using hqq)
    refine V.g [.k (.agg #[iv 0, iv 0, iv 0, iv 0, iv 0, iv 0, iv 0, .slice none 0 0, iv 0, .slice none 0 0]),.st 0 (fun _ => .blk ((G1 0).b) #[iv 0, iv 0, iv 0, iv 0, iv 0, iv 0, iv 0, .slice none 0 0, iv 0, .slice none 0 0] 32),.k (iv 12)] fun _ _ G4 => ?_
    intro S_ s_
    refine V.nilF (α := Int) ?_
    refine V.nilF (α := Int) ?_
    have e7 : ([] : List Int) = Fr.rD (((Un.read s).1).isSome = true) (Un.fv ((Un.read s).1)) := (Fr.Fz.no (Un.is_n (by rw [hrd])) (Un.fv (Un.read s).1)).2.1
    rw [← e7]
    have e9 : ([] : List Int) = Fr.rE (((Un.read s).1).isSome = true) (Un.fv ((Un.read s).1)) := (Fr.Fz.no (Un.is_n (by rw [hrd])) (Un.fv (Un.read s).1)).2.2.2
    rw [← e9]
    have e0 : (0 : Int) = Un.dv ((Un.read s).1) 0 := (Un.dv_n (by rw [hrd]) 0).symm
    have e1 : (0 : Int) = Un.dv ((Un.read s).1) 1 := (Un.dv_n (by rw [hrd]) 1).symm
    have e2 : (0 : Int) = Un.dv ((Un.read s).1) 2 := (Un.dv_n (by rw [hrd]) 2).symm
    have e3 : (0 : Int) = Un.dv ((Un.read s).1) 3 := (Un.dv_n (by rw [hrd]) 3).symm
    have e4 : (0 : Int) = Un.dv ((Un.read s).1) 4 := (Un.dv_n (by rw [hrd]) 4).symm
    have e5 : (0 : Int) = Un.dv ((Un.read s).1) 5 := (Un.dv_n (by rw [hrd]) 5).symm
    have e6 : (0 : Int) = Fr.rS (((Un.read s).1).isSome = true) (Un.fv ((Un.read s).1)) := (Fr.Fz.no (Un.is_n (by rw [hrd])) (Un.fv (Un.read s).1)).1
    have e8 : (0 : Int) = Fr.rT (((Un.read s).1).isSome = true) := (Fr.Fz.no (Un.is_n (by rw [hrd])) (Un.fv (Un.read s).1)).2.2.1
    have e10 : (12 : Int) = (Un.read s).2 := by rw [hrd]
    exact V.ret [0, 0] [{}, {}] [fun _ => {}, fun _ => {}] [] [1, 2] [] (.tuple #[.agg #[iv 0, iv 0, iv 0, iv 0, iv 0, iv 0, iv 0, SV.v ({}), iv 0, SV.v ({})], iv 12]) (fun _ _ => by kernel_rfl) (fun _ _ => (Eq.trans (by kernel_rfl) (cong9 (fun (x0 : Int) (x1 : Int) (x2 : Int) (x3 : Int) (x4 : Int) (x5 : Int) (x6 : Int) (x8 : Int) (x10 : Int) => (.tuple #[.agg #[iv x0, iv x1, iv x2, iv x3, iv x4, iv x5, iv x6, SV.v ({}), iv x8, SV.v ({})], iv x10] : Value)) e0 e1 e2 e3 e4 e5 e6 e8 e10)).trans (by kernel_rfl)) (fun _ _ => trivial)
  have hsm : (Un.items s).isSome = true := by have hqq := q2; first | exact hqq | simpa using hqq
  have hie : Un.items s = some l1 := by rw [hl1]; exact Un.its hsm
  have hio := Un.items_ok hie
  have hil := hio.1
  refine nm (Bg.sgn (1 : Int) : Int) fun n1 hn1 => ?_
  refine nm (Bg.dig (1 : Int).natAbs : List Int) fun l2 hl2 => ?_
  have hl2n := congrArg List.length hl2
  refine nm (Bg.dig 1 : List Int) fun l3 hl3 => ?_
  have hl3n := congrArg List.length hl3
  refine V.r [.ct g0 0 46 false [] [] [] (fun _ G => fint_ctv (1 : Int) (by omega) n1 hn1 l2 hl2 l3 hl3),.v fun G => .agg #[iv 0, iv 0, iv 0, iv 0, iv 0, iv 0, iv n1, ((G 0).ss 0).v, iv 1, ((G 0).ss 1).v],.nb 2 1 (fun b => pp b 0) 32 (fun _ => #[iv 0, iv 0, iv 0, iv 0, iv 0, iv 0, iv 0, .slice none 0 0, iv 0, .slice none 0 0]),.st 1 (fun G => .blk ((G 2).b) #[iv 0, iv 0, iv 0, iv 0, iv 0, iv 0, iv n1, ((G 0).ss 0).v, iv 1, ((G 0).ss 1).v] 32)] fun _ _ G5 kw5 => ?_
  intro S_ s_
  obtain ⟨⟨kl2, -⟩, ⟨kl3, -⟩, -⟩ : Lq l2 (((G5 0).ss 0).v) ∧ Lq l3 (((G5 0).ss 1).v) ∧ True := kn kw5 (by kernel_rfl)
  clear kw5
  refine V.g [.k (((G2 1).ss 0).v),.ln (kf true (.f 0) l1 (fun _ => (G2 1).ss 0)),.k (iv 0)] fun _ _ G6 => ?_
  intro S_ s_
  refine V.loop (γ := Int × Int × Int × Int × Int × Int × Int × Int × List Int × SV × Int × List Int × SV) (fun ⟨k0, out_0, out_1, out_2, out_3, out_4, out_5, out_6, out_7, out_7s, out_8, out_9, out_9s⟩ => ⟨[(2, pp ((G1 0).b) 0), (6, pp ((G5 2).b) 0), (23, ((G2 1).ss 0).v), (24, iv (l1.length : Int)), (25, iv k0)], [fs true l1 ((G2 1).ss 0), fs true out_7 out_7s, fs true out_9 out_9s], [.blk ((G1 0).b) #[iv 0, iv 0, iv 0, iv 0, iv 0, iv 0, iv 0, .slice none 0 0, iv 0, .slice none 0 0] 32, .blk ((G5 2).b) #[iv out_0, iv out_1, iv out_2, iv out_3, iv out_4, iv out_5, iv out_6, out_7s.v, iv out_8, out_9s.v] 32, .no, .no]⟩) (fun ⟨k0, out_0, out_1, out_2, out_3, out_4, out_5, out_6, out_7, out_7s, out_8, out_9, out_9s⟩ => (0 ≤ k0) ∧ (k0 ≤ (l1.length : Int)) ∧ (Un.acc (l1.drop k0.toNat) ([out_0, out_1, out_2, out_3, out_4, out_5], (Fr.fq out_6 out_7 out_9)) = Un.acc l1 ([0, 0, 0, 0, 0, 0], 1)) ∧ (Fr.FrB out_6 out_7 out_8 out_9) ∧ (Un.R27 k0 out_0) ∧ (Un.R27 k0 out_1) ∧ (Un.R27 k0 out_2) ∧ (Un.R27 k0 out_3) ∧ (Un.R27 k0 out_4) ∧ (Un.R27 k0 out_5) ∧ (out_7.length ≤ 1 + 36 * k0.toNat ∧ out_9.length ≤ 1 + 36 * k0.toNat)) (fun ⟨k0, out_0, out_1, out_2, out_3, out_4, out_5, out_6, out_7, out_7s, out_8, out_9, out_9s⟩ => ((l1.length : Int) - k0).toNat) (0, 0, 0, 0, 0, 0, 0, n1, l2, (G5 0).ss 0, 1, l3, (G5 0).ss 1) (by kernel_rfl) [0, 1, 2] (by kernel_rfl) ?_ ?_
  · refine ⟨?_, ?_, ?_, ?_, ?_, ?_, ?_, ?_, ?_, ?_, ?_⟩
    · show 0 ≤ (0 : Int)
      first | omega | rfl | (simp; done) | (subst_vars; simp; done)
    · show (0 : Int) ≤ (l1.length : Int)
      first | omega | rfl | (simp; done) | (subst_vars; simp; done)
    · show Un.acc (l1.drop (0 : Int).toNat) ([(0 : Int), (0 : Int), (0 : Int), (0 : Int), (0 : Int), (0 : Int)], (Fr.fq n1 l2 l3)) = Un.acc l1 ([0, 0, 0, 0, 0, 0], 1)
      rw [hn1, hl2, hl3]
      show Un.acc l1 ([0, 0, 0, 0, 0, 0], Fr.fq (Bg.sgn (1 : Rat).num) (Bg.dig (1 : Rat).num.natAbs) (Bg.dig (1 : Rat).den)) = _; rw [Fr.fq_of]
    · show Fr.FrB n1 l2 (1 : Int) l3
      rw [hn1, hl2, hl3]; exact Fr.FrB.of 1
    · show Un.R27 (0 : Int) (0 : Int)
      exact Un.R27.zero
    · show Un.R27 (0 : Int) (0 : Int)
      exact Un.R27.zero
    · show Un.R27 (0 : Int) (0 : Int)
      exact Un.R27.zero
    · show Un.R27 (0 : Int) (0 : Int)
      exact Un.R27.zero
    · show Un.R27 (0 : Int) (0 : Int)
      exact Un.R27.zero
    · show Un.R27 (0 : Int) (0 : Int)
      exact Un.R27.zero
    show l2.length ≤ 1 + 36 * (0 : Int).toNat ∧ l3.length ≤ 1 + 36 * (0 : Int).toNat
    subst_vars; exact ⟨Bg.dig_lt (k := 1) (by decide), Bg.dig_lt (k := 1) (by decide)⟩
  rintro ⟨k0, out_0, out_1, out_2, out_3, out_4, out_5, out_6, out_7, out_7s, out_8, out_9, out_9s⟩ hF1 kw7 Z1 hZ1
  have hF1 : (0 ≤ k0) ∧ (k0 ≤ (l1.length : Int)) ∧ (Un.acc (l1.drop k0.toNat) ([out_0, out_1, out_2, out_3, out_4, out_5], (Fr.fq out_6 out_7 out_9)) = Un.acc l1 ([0, 0, 0, 0, 0, 0], 1)) ∧ (Fr.FrB out_6 out_7 out_8 out_9) ∧ (Un.R27 k0 out_0) ∧ (Un.R27 k0 out_1) ∧ (Un.R27 k0 out_2) ∧ (Un.R27 k0 out_3) ∧ (Un.R27 k0 out_4) ∧ (Un.R27 k0 out_5) ∧ (out_7.length ≤ 1 + 36 * k0.toNat ∧ out_9.length ≤ 1 + 36 * k0.toNat) := hF1
  obtain ⟨hf1, hf2, hf3, hf4, hf5, hf6, hf7, hf8, hf9, hf10, hf11⟩ := hF1
  obtain ⟨-, ⟨kl4, -⟩, ⟨kl5, -⟩, -⟩ : Lq l1 (((G2 1).ss 0).v) ∧ Lq out_7 out_7s.v ∧ Lq out_9 out_9s.v ∧ True := kn kw7 (by kernel_rfl)
  clear kw7
  refine V.g [.k (bv (decide (k0 < (l1.length : Int))))] fun _ _ G7 => ?_
  intro S_ s_
  refine V.cond (b := decide (k0 < (l1.length : Int))) iDT iDF (by kernel_rfl) (fun q3 => ?_) (fun q4 => ?_)
  · refine nm (l1.getD k0.toNat default : Ditem) fun x1 hx1 => ?_
    refine V.g [.ix g0 (kf true (.f 0) l1 (fun _ => (G2 1).ss 0)) k0 (fun _ => ⟨by omega, by omega⟩),.le g0 (kf true (.f 0) l1 (fun _ => (G2 1).ss 0)) k0 none false x1 hx1 (fun _ => ⟨by omega, by omega⟩) true (fun _ => Dat.cells x1),.nb 2 2 (fun b => pp b 0) 80 (fun _ => ca (Ditem.mk ByteArray.empty 0)),.st 2 (fun G => .blk ((G 2).b) (ca x1) 80)] fun _ _ G8 => ?_
    intro S_ s_
    have hxm := getD_mem (l := l1) (k := k0.toNat) (by omega) hx1
    have hxo := hio.2 _ hxm
    have hxo1 := hxo.1; have hxo2 := hxo.2.1; have hxo3 := hxo.2.2
    refine nm (Un.dv (Un.word x1.word) 0 : Int) fun n2 hn2 => ?_
    refine nm (Un.dv (Un.word x1.word) 1 : Int) fun n3 hn3 => ?_
    refine nm (Un.dv (Un.word x1.word) 2 : Int) fun n4 hn4 => ?_
    refine nm (Un.dv (Un.word x1.word) 3 : Int) fun n5 hn5 => ?_
    refine nm (Un.dv (Un.word x1.word) 4 : Int) fun n6 hn6 => ?_
    refine nm (Un.dv (Un.word x1.word) 5 : Int) fun n7 hn7 => ?_
    refine nm (Fr.rS ((Un.word x1.word).isSome = true) (Un.fv (Un.word x1.word)) : Int) fun n8 hn8 => ?_
    refine nm (Fr.rD ((Un.word x1.word).isSome = true) (Un.fv (Un.word x1.word)) : List Int) fun l4 hl4 => ?_
    have hl4n := congrArg List.length hl4
    refine nm (Fr.rT ((Un.word x1.word).isSome = true) : Int) fun n9 hn9 => ?_
    refine nm (Fr.rE ((Un.word x1.word).isSome = true) (Un.fv (Un.word x1.word)) : List Int) fun l5 hl5 => ?_
    have hl5n := congrArg List.length hl5
    refine V.r [.k (pp ((G8 2).b) 0),.ld 2 0 false (fun _ => [tv x1.word]),.ct g0 2 47 false [] [] [] (fun _ G => uword_ctv x1.word (by omega) n2 hn2 n3 hn3 n4 hn4 n5 hn5 n6 hn6 n7 hn7 n8 hn8 l4 hl4 n9 hn9 l5 hl5),.v fun G => .tuple #[.agg #[iv n2, iv n3, iv n4, iv n5, iv n6, iv n7, iv n8, ((G 2).ss 0).v, iv n9, ((G 2).ss 1).v], bv ((Un.word x1.word).isSome)],.v fun G => .agg #[iv n2, iv n3, iv n4, iv n5, iv n6, iv n7, iv n8, ((G 2).ss 0).v, iv n9, ((G 2).ss 1).v],.k (bv ((Un.word x1.word).isSome)),.nb 6 3 (fun b => pp b 0) 32 (fun _ => #[iv 0, iv 0, iv 0, iv 0, iv 0, iv 0, iv 0, .slice none 0 0, iv 0, .slice none 0 0]),.st 3 (fun G => .blk ((G 6).b) #[iv n2, iv n3, iv n4, iv n5, iv n6, iv n7, iv n8, ((G 2).ss 0).v, iv n9, ((G 2).ss 1).v] 32),.k (bv ((Un.word x1.word).isSome))] fun _ _ G9 kw10 => ?_
    intro S_ s_
    obtain ⟨⟨kl6, -⟩, ⟨kl7, -⟩, -⟩ : Lq l4 (((G9 2).ss 0).v) ∧ Lq l5 (((G9 2).ss 1).v) ∧ True := kn kw10 (by kernel_rfl)
    clear kw10
    have hk41 : 0 ≤ k0 ∧ k0 ≤ 41 := ⟨by omega, by omega⟩
    refine V.g [.k (bv ((Un.word x1.word).isSome)),.k (bv (!((Un.word x1.word).isSome)))] fun _ _ G10 => ?_
    intro S_ s_
    refine V.cond (b := !((Un.word x1.word).isSome)) (iNT Iff.rfl) (iNF Iff.rfl) (by kernel_rfl) (fun q5 => ?_) (fun q6 => ?_)
    · have hrd := Un.read_nam hsm (by rw [← hl1, ← hf3, Un.acc_drop (by omega), ← hx1, if_neg (by have hqq := q5; simpa using hqq)])
      refine V.g [.k (.agg #[iv 0, iv 0, iv 0, iv 0, iv 0, iv 0, iv 0, .slice none 0 0, iv 0, .slice none 0 0]),.st 0 (fun _ => .blk ((G1 0).b) #[iv 0, iv 0, iv 0, iv 0, iv 0, iv 0, iv 0, .slice none 0 0, iv 0, .slice none 0 0] 32),.k (iv 11)] fun _ _ G11 => ?_
      intro S_ s_
      refine V.nilF (α := Int) ?_
      refine V.nilF (α := Int) ?_
      have e7 : ([] : List Int) = Fr.rD (((Un.read s).1).isSome = true) (Un.fv ((Un.read s).1)) := (Fr.Fz.no (Un.is_n (by rw [hrd])) (Un.fv (Un.read s).1)).2.1
      rw [← e7]
      have e9 : ([] : List Int) = Fr.rE (((Un.read s).1).isSome = true) (Un.fv ((Un.read s).1)) := (Fr.Fz.no (Un.is_n (by rw [hrd])) (Un.fv (Un.read s).1)).2.2.2
      rw [← e9]
      have e0 : (0 : Int) = Un.dv ((Un.read s).1) 0 := (Un.dv_n (by rw [hrd]) 0).symm
      have e1 : (0 : Int) = Un.dv ((Un.read s).1) 1 := (Un.dv_n (by rw [hrd]) 1).symm
      have e2 : (0 : Int) = Un.dv ((Un.read s).1) 2 := (Un.dv_n (by rw [hrd]) 2).symm
      have e3 : (0 : Int) = Un.dv ((Un.read s).1) 3 := (Un.dv_n (by rw [hrd]) 3).symm
      have e4 : (0 : Int) = Un.dv ((Un.read s).1) 4 := (Un.dv_n (by rw [hrd]) 4).symm
      have e5 : (0 : Int) = Un.dv ((Un.read s).1) 5 := (Un.dv_n (by rw [hrd]) 5).symm
      have e6 : (0 : Int) = Fr.rS (((Un.read s).1).isSome = true) (Un.fv ((Un.read s).1)) := (Fr.Fz.no (Un.is_n (by rw [hrd])) (Un.fv (Un.read s).1)).1
      have e8 : (0 : Int) = Fr.rT (((Un.read s).1).isSome = true) := (Fr.Fz.no (Un.is_n (by rw [hrd])) (Un.fv (Un.read s).1)).2.2.1
      have e10 : (11 : Int) = (Un.read s).2 := by rw [hrd]
      exact V.ret [0, 0] [{}, {}] [fun _ => {}, fun _ => {}] [] [5, 6] [] (.tuple #[.agg #[iv 0, iv 0, iv 0, iv 0, iv 0, iv 0, iv 0, SV.v ({}), iv 0, SV.v ({})], iv 11]) (fun _ _ => by kernel_rfl) (fun _ _ => (Eq.trans (by kernel_rfl) (cong9 (fun (x0 : Int) (x1 : Int) (x2 : Int) (x3 : Int) (x4 : Int) (x5 : Int) (x6 : Int) (x8 : Int) (x10 : Int) => (.tuple #[.agg #[iv x0, iv x1, iv x2, iv x3, iv x4, iv x5, iv x6, SV.v ({}), iv x8, SV.v ({})], iv x10] : Value)) e0 e1 e2 e3 e4 e5 e6 e8 e10)).trans (by kernel_rfl)) (fun _ _ => trivial)
    have hws : (Un.word x1.word).isSome = true := by have hqq := q6; first | exact hqq | simpa using hqq
    have zw := Fr.Fz.of hws hn8 hl4 hn9 hl5
    have hwo := Un.word_ok (Un.some_of hws)
    have hzw := zw.len hwo.2.2.2
    have hzw1 := hzw.1; have hzw2 := hzw.2
    have hw0 : n8 ≠ 0 := by have := (Fr.sgn_num (r := Un.fv (Un.word x1.word))).2.2.2 hwo.2.2.1; rw [← zw.eqs.1] at this; omega
    refine V.g [.k (pp ((G9 6).b) 0),.ld 3 0 true (fun _ => [iv n2, iv n3, iv n4, iv n5, iv n6, iv n7]),.k (iv 0)] fun _ _ G12 => ?_
    intro S_ s_
    refine V.unrollL 99 (by kernel_rfl) ?_
    intro L_1
    refine V.g [.kb true] fun _ _ G13 => ?_
    intro S_ s_
    refine V.condT (by kernel_rfl) ?_
    refine V.g [.k (iv 0),.k (iv n2),.k (iv 0),.k (iv n2)] fun _ _ G14 => ?_
    intro S_ s_
    refine nm (n2 * x1.exp : Int) fun n10 hn10 => ?_
    refine V.g [.k (iv 0),.k (pp ((G5 2).b) 0),.k (pp ((G5 2).b) 0),.ld 1 0 false (fun _ => [iv out_0]),.k (iv n2),.k (pp ((G8 2).b) 1),.ld 2 1 false (fun _ => [iv x1.exp]),.ar (n2 * x1.exp) n10 hn10 (Un.R27.r64 (.mul (by rw [hn2]; exact Un.word_rg x1.word 0) ⟨hxo2, hxo3⟩ hn10)).1 (Un.R27.r64 (.mul (by rw [hn2]; exact Un.word_rg x1.word 0) ⟨hxo2, hxo3⟩ hn10)).2,.a (out_0 + n10) (Un.R27.a64 hf5 (.mul (by rw [hn2]; exact Un.word_rg x1.word 0) ⟨hxo2, hxo3⟩ hn10) hk41).1 (Un.R27.a64 hf5 (.mul (by rw [hn2]; exact Un.word_rg x1.word 0) ⟨hxo2, hxo3⟩ hn10) hk41).2,.k (pp ((G5 2).b) 0),.k (pp ((G5 2).b) 0),.st 1 (fun _ => .blk ((G5 2).b) #[iv (out_0 + n10), iv out_1, iv out_2, iv out_3, iv out_4, iv out_5, iv out_6, out_7s.v, iv out_8, out_9s.v] 32)] fun _ _ G15 => ?_
    intro S_ s_
    refine V.g [.k (iv 1),.k (iv 1)] fun _ _ G16 => ?_
    intro S_ s_
    refine V.againL L_1 98 (by kernel_rfl) ?_
    refine V.g [.kb true] fun _ _ G17 => ?_
    intro S_ s_
    refine V.condT (by kernel_rfl) ?_
    refine V.g [.k (iv 1),.k (iv n3),.k (iv 1),.k (iv n3)] fun _ _ G18 => ?_
    intro S_ s_
    refine nm (n3 * x1.exp : Int) fun n11 hn11 => ?_
    refine V.g [.k (iv 1),.k (pp ((G5 2).b) 0),.k (pp ((G5 2).b) 1),.ld 1 1 false (fun _ => [iv out_1]),.k (iv n3),.k (pp ((G8 2).b) 1),.ld 2 1 false (fun _ => [iv x1.exp]),.ar (n3 * x1.exp) n11 hn11 (Un.R27.r64 (.mul (by rw [hn3]; exact Un.word_rg x1.word 1) ⟨hxo2, hxo3⟩ hn11)).1 (Un.R27.r64 (.mul (by rw [hn3]; exact Un.word_rg x1.word 1) ⟨hxo2, hxo3⟩ hn11)).2,.a (out_1 + n11) (Un.R27.a64 hf6 (.mul (by rw [hn3]; exact Un.word_rg x1.word 1) ⟨hxo2, hxo3⟩ hn11) hk41).1 (Un.R27.a64 hf6 (.mul (by rw [hn3]; exact Un.word_rg x1.word 1) ⟨hxo2, hxo3⟩ hn11) hk41).2,.k (pp ((G5 2).b) 0),.k (pp ((G5 2).b) 1),.st 1 (fun _ => .blk ((G5 2).b) #[iv (out_0 + n10), iv (out_1 + n11), iv out_2, iv out_3, iv out_4, iv out_5, iv out_6, out_7s.v, iv out_8, out_9s.v] 32)] fun _ _ G19 => ?_
    intro S_ s_
    refine V.g [.k (iv 2),.k (iv 2)] fun _ _ G20 => ?_
    intro S_ s_
    refine V.againL L_1 97 (by kernel_rfl) ?_
    refine V.g [.kb true] fun _ _ G21 => ?_
    intro S_ s_
    refine V.condT (by kernel_rfl) ?_
    refine V.g [.k (iv 2),.k (iv n4),.k (iv 2),.k (iv n4)] fun _ _ G22 => ?_
    intro S_ s_
    refine nm (n4 * x1.exp : Int) fun n12 hn12 => ?_
    refine V.g [.k (iv 2),.k (pp ((G5 2).b) 0),.k (pp ((G5 2).b) 2),.ld 1 2 false (fun _ => [iv out_2]),.k (iv n4),.k (pp ((G8 2).b) 1),.ld 2 1 false (fun _ => [iv x1.exp]),.ar (n4 * x1.exp) n12 hn12 (Un.R27.r64 (.mul (by rw [hn4]; exact Un.word_rg x1.word 2) ⟨hxo2, hxo3⟩ hn12)).1 (Un.R27.r64 (.mul (by rw [hn4]; exact Un.word_rg x1.word 2) ⟨hxo2, hxo3⟩ hn12)).2,.a (out_2 + n12) (Un.R27.a64 hf7 (.mul (by rw [hn4]; exact Un.word_rg x1.word 2) ⟨hxo2, hxo3⟩ hn12) hk41).1 (Un.R27.a64 hf7 (.mul (by rw [hn4]; exact Un.word_rg x1.word 2) ⟨hxo2, hxo3⟩ hn12) hk41).2,.k (pp ((G5 2).b) 0),.k (pp ((G5 2).b) 2),.st 1 (fun _ => .blk ((G5 2).b) #[iv (out_0 + n10), iv (out_1 + n11), iv (out_2 + n12), iv out_3, iv out_4, iv out_5, iv out_6, out_7s.v, iv out_8, out_9s.v] 32)] fun _ _ G23 => ?_
    intro S_ s_
    refine V.g [.k (iv 3),.k (iv 3)] fun _ _ G24 => ?_
    intro S_ s_
    refine V.againL L_1 96 (by kernel_rfl) ?_
    refine V.g [.kb true] fun _ _ G25 => ?_
    intro S_ s_
    refine V.condT (by kernel_rfl) ?_
    refine V.g [.k (iv 3),.k (iv n5),.k (iv 3),.k (iv n5)] fun _ _ G26 => ?_
    intro S_ s_
    refine nm (n5 * x1.exp : Int) fun n13 hn13 => ?_
    refine V.g [.k (iv 3),.k (pp ((G5 2).b) 0),.k (pp ((G5 2).b) 3),.ld 1 3 false (fun _ => [iv out_3]),.k (iv n5),.k (pp ((G8 2).b) 1),.ld 2 1 false (fun _ => [iv x1.exp]),.ar (n5 * x1.exp) n13 hn13 (Un.R27.r64 (.mul (by rw [hn5]; exact Un.word_rg x1.word 3) ⟨hxo2, hxo3⟩ hn13)).1 (Un.R27.r64 (.mul (by rw [hn5]; exact Un.word_rg x1.word 3) ⟨hxo2, hxo3⟩ hn13)).2,.a (out_3 + n13) (Un.R27.a64 hf8 (.mul (by rw [hn5]; exact Un.word_rg x1.word 3) ⟨hxo2, hxo3⟩ hn13) hk41).1 (Un.R27.a64 hf8 (.mul (by rw [hn5]; exact Un.word_rg x1.word 3) ⟨hxo2, hxo3⟩ hn13) hk41).2,.k (pp ((G5 2).b) 0),.k (pp ((G5 2).b) 3),.st 1 (fun _ => .blk ((G5 2).b) #[iv (out_0 + n10), iv (out_1 + n11), iv (out_2 + n12), iv (out_3 + n13), iv out_4, iv out_5, iv out_6, out_7s.v, iv out_8, out_9s.v] 32)] fun _ _ G27 => ?_
    intro S_ s_
    refine V.g [.k (iv 4),.k (iv 4)] fun _ _ G28 => ?_
    intro S_ s_
    refine V.againL L_1 95 (by kernel_rfl) ?_
    refine V.g [.kb true] fun _ _ G29 => ?_
    intro S_ s_
    refine V.condT (by kernel_rfl) ?_
    refine V.g [.k (iv 4),.k (iv n6),.k (iv 4),.k (iv n6)] fun _ _ G30 => ?_
    intro S_ s_
    refine nm (n6 * x1.exp : Int) fun n14 hn14 => ?_
    refine V.g [.k (iv 4),.k (pp ((G5 2).b) 0),.k (pp ((G5 2).b) 4),.ld 1 4 false (fun _ => [iv out_4]),.k (iv n6),.k (pp ((G8 2).b) 1),.ld 2 1 false (fun _ => [iv x1.exp]),.ar (n6 * x1.exp) n14 hn14 (Un.R27.r64 (.mul (by rw [hn6]; exact Un.word_rg x1.word 4) ⟨hxo2, hxo3⟩ hn14)).1 (Un.R27.r64 (.mul (by rw [hn6]; exact Un.word_rg x1.word 4) ⟨hxo2, hxo3⟩ hn14)).2,.a (out_4 + n14) (Un.R27.a64 hf9 (.mul (by rw [hn6]; exact Un.word_rg x1.word 4) ⟨hxo2, hxo3⟩ hn14) hk41).1 (Un.R27.a64 hf9 (.mul (by rw [hn6]; exact Un.word_rg x1.word 4) ⟨hxo2, hxo3⟩ hn14) hk41).2,.k (pp ((G5 2).b) 0),.k (pp ((G5 2).b) 4),.st 1 (fun _ => .blk ((G5 2).b) #[iv (out_0 + n10), iv (out_1 + n11), iv (out_2 + n12), iv (out_3 + n13), iv (out_4 + n14), iv out_5, iv out_6, out_7s.v, iv out_8, out_9s.v] 32)] fun _ _ G31 => ?_
    intro S_ s_
    refine V.g [.k (iv 5),.k (iv 5)] fun _ _ G32 => ?_
    intro S_ s_
    refine V.againL L_1 94 (by kernel_rfl) ?_
    refine V.g [.kb true] fun _ _ G33 => ?_
    intro S_ s_
    refine V.condT (by kernel_rfl) ?_
    refine V.g [.k (iv 5),.k (iv n7),.k (iv 5),.k (iv n7)] fun _ _ G34 => ?_
    intro S_ s_
    refine nm (n7 * x1.exp : Int) fun n15 hn15 => ?_
    refine V.g [.k (iv 5),.k (pp ((G5 2).b) 0),.k (pp ((G5 2).b) 5),.ld 1 5 false (fun _ => [iv out_5]),.k (iv n7),.k (pp ((G8 2).b) 1),.ld 2 1 false (fun _ => [iv x1.exp]),.ar (n7 * x1.exp) n15 hn15 (Un.R27.r64 (.mul (by rw [hn7]; exact Un.word_rg x1.word 5) ⟨hxo2, hxo3⟩ hn15)).1 (Un.R27.r64 (.mul (by rw [hn7]; exact Un.word_rg x1.word 5) ⟨hxo2, hxo3⟩ hn15)).2,.a (out_5 + n15) (Un.R27.a64 hf10 (.mul (by rw [hn7]; exact Un.word_rg x1.word 5) ⟨hxo2, hxo3⟩ hn15) hk41).1 (Un.R27.a64 hf10 (.mul (by rw [hn7]; exact Un.word_rg x1.word 5) ⟨hxo2, hxo3⟩ hn15) hk41).2,.k (pp ((G5 2).b) 0),.k (pp ((G5 2).b) 5),.st 1 (fun _ => .blk ((G5 2).b) #[iv (out_0 + n10), iv (out_1 + n11), iv (out_2 + n12), iv (out_3 + n13), iv (out_4 + n14), iv (out_5 + n15), iv out_6, out_7s.v, iv out_8, out_9s.v] 32)] fun _ _ G35 => ?_
    intro S_ s_
    refine V.g [.k (iv 6),.k (iv 6)] fun _ _ G36 => ?_
    intro S_ s_
    refine V.againL L_1 93 (by kernel_rfl) ?_
    refine V.g [.kb false] fun _ _ G37 => ?_
    intro S_ s_
    refine V.condF (by kernel_rfl) ?_
    refine nm (Fr.rS (True) (Un.tm (Fr.fq out_6 out_7 out_9) (Fr.fq n8 l4 l5) x1.exp) : Int) fun n16 hn16 => ?_
    refine nm (Fr.rD (True) (Un.tm (Fr.fq out_6 out_7 out_9) (Fr.fq n8 l4 l5) x1.exp) : List Int) fun l6 hl6 => ?_
    have hl6n := congrArg List.length hl6
    refine nm (Fr.rT (True) : Int) fun n17 hn17 => ?_
    refine nm (Fr.rE (True) (Un.tm (Fr.fq out_6 out_7 out_9) (Fr.fq n8 l4 l5) x1.exp) : List Int) fun l7 hl7 => ?_
    have hl7n := congrArg List.length hl7
    refine V.r [.k (pp ((G5 2).b) 6),.ld 1 6 true (fun _ => Dat.cells (DFrac.mk (DBig.mk out_6 ⟨out_7, out_7s⟩) (DBig.mk out_8 ⟨out_9, out_9s⟩))),.k (pp ((G9 6).b) 6),.ld 3 6 true (fun _ => Dat.cells (DFrac.mk (DBig.mk n8 ⟨l4, (G9 2).ss 0⟩) (DBig.mk n9 ⟨l5, (G9 2).ss 1⟩))),.k (pp ((G8 2).b) 1),.ld 2 1 false (fun _ => [iv x1.exp]),.ctT g0 6 48 [(kf true (.f 1) out_7 (fun _ => out_7s)).a, (kf true (.f 2) out_9 (fun _ => out_9s)).a, (kf true (.f 3) l4 (fun _ => (G9 2).ss 0)).a, (kf true (.f 4) l5 (fun _ => (G9 2).ss 1)).a] (fun _ G => utimes_ctv out_6 out_7 out_7s out_8 out_9 out_9s n8 l4 ((G9 2).ss 0) n9 l5 ((G9 2).ss 1) x1.exp hf4 zw.rt hw0 ⟨hxo2, hxo3⟩ ⟨by omega, by omega⟩ ⟨by omega, by omega⟩ n16 hn16 l6 hl6 n17 hn17 l7 hl7),.k (pp ((G5 2).b) 6),.st 1 (fun G => .blk ((G5 2).b) #[iv (out_0 + n10), iv (out_1 + n11), iv (out_2 + n12), iv (out_3 + n13), iv (out_4 + n14), iv (out_5 + n15), iv n16, ((G 6).ss 0).v, iv n17, ((G 6).ss 1).v] 32)] fun _ _ G38 kw39 => ?_
    intro S_ s_
    obtain ⟨⟨kl8, -⟩, ⟨kl9, -⟩, -⟩ : Lq l6 (((G38 6).ss 0).v) ∧ Lq l7 (((G38 6).ss 1).v) ∧ True := kn kw39 (by kernel_rfl)
    clear kw39
    have zt := Fr.Fz.of True.intro hn16 hl6 hn17 hl7
    rw [zw.v] at zt
    have hzt := zt.len (Un.tm_hb (hf4.hb hf11.1 hf11.2) hwo.2.2.2 ⟨hxo2, hxo3⟩)
    have hzt1 := hzt.1; have hzt2 := hzt.2
    refine V.g [.a (k0 + 1) (by omega) (by omega),.k (iv (k0 + 1))] fun _ _ G39 => ?_
    intro S_ s_
    refine V.rnd hZ1 (k0 + 1, out_0 + n10, out_1 + n11, out_2 + n12, out_3 + n13, out_4 + n14, out_5 + n15, n16, l6, (G38 6).ss 0, n17, l7, (G38 6).ss 1) [0, 5, 6] (by kernel_rfl) ?_ ?_
    · refine ⟨?_, ?_, ?_, ?_, ?_, ?_, ?_, ?_, ?_, ?_, ?_⟩
      · show 0 ≤ (k0 + 1)
        omega
      · show (k0 + 1) ≤ (l1.length : Int)
        omega
      · show Un.acc (l1.drop (k0 + 1).toNat) ([(out_0 + n10), (out_1 + n11), (out_2 + n12), (out_3 + n13), (out_4 + n14), (out_5 + n15)], (Fr.fq n16 l6 l7)) = Un.acc l1 ([0, 0, 0, 0, 0, 0], 1)
        rw [show (k0 + 1).toNat = k0.toNat + 1 by omega, ← hf3, Un.acc_drop (k := k0.toNat) (by omega), ← hx1, if_pos hws, zt.v, hn10, hn11, hn12, hn13, hn14, hn15, hn2, hn3, hn4, hn5, hn6, hn7]; rfl
      · show Fr.FrB n16 l6 n17 l7
        exact zt.rt
      · show Un.R27 (k0 + 1) (out_0 + n10)
        exact Un.R27.add hf5 (.mul (by rw [hn2]; exact Un.word_rg x1.word 0) ⟨hxo2, hxo3⟩ hn10)
      · show Un.R27 (k0 + 1) (out_1 + n11)
        exact Un.R27.add hf6 (.mul (by rw [hn3]; exact Un.word_rg x1.word 1) ⟨hxo2, hxo3⟩ hn11)
      · show Un.R27 (k0 + 1) (out_2 + n12)
        exact Un.R27.add hf7 (.mul (by rw [hn4]; exact Un.word_rg x1.word 2) ⟨hxo2, hxo3⟩ hn12)
      · show Un.R27 (k0 + 1) (out_3 + n13)
        exact Un.R27.add hf8 (.mul (by rw [hn5]; exact Un.word_rg x1.word 3) ⟨hxo2, hxo3⟩ hn13)
      · show Un.R27 (k0 + 1) (out_4 + n14)
        exact Un.R27.add hf9 (.mul (by rw [hn6]; exact Un.word_rg x1.word 4) ⟨hxo2, hxo3⟩ hn14)
      · show Un.R27 (k0 + 1) (out_5 + n15)
        exact Un.R27.add hf10 (.mul (by rw [hn7]; exact Un.word_rg x1.word 5) ⟨hxo2, hxo3⟩ hn15)
      show l6.length ≤ 1 + 36 * (k0 + 1).toNat ∧ l7.length ≤ 1 + 36 * (k0 + 1).toNat
      omega
    show ((l1.length : Int) - (k0 + 1)).toNat < ((l1.length : Int) - k0).toNat
    omega
  have hfin : Un.acc l1 ([0, 0, 0, 0, 0, 0], 1) = some ([out_0, out_1, out_2, out_3, out_4, out_5], (Fr.fq out_6 out_7 out_9)) := by rw [← hf3, List.drop_of_length_le (by omega)]; rfl
  refine V.g [.k (pp ((G5 2).b) 0),.ld 1 0 true (fun _ => [iv out_0, iv out_1, iv out_2, iv out_3, iv out_4, iv out_5]),.cp g0 2 12 [] (fun _ G => dright_ct out_0 out_1 out_2 out_3 out_4 out_5),.k (bv (!(decide (Dm.Rt [out_0, out_1, out_2, out_3, out_4, out_5]))))] fun _ _ G40 => ?_
  intro S_ s_
  refine V.cond (b := !(decide (Dm.Rt [out_0, out_1, out_2, out_3, out_4, out_5]))) (iNT iDF) (iNF iDT) (by kernel_rfl) (fun q7 => ?_) (fun q8 => ?_)
  · have hrd := Un.read_rng hsm (by rw [← hl1]; exact hfin) q7
    refine V.g [.k (.agg #[iv 0, iv 0, iv 0, iv 0, iv 0, iv 0, iv 0, .slice none 0 0, iv 0, .slice none 0 0]),.st 0 (fun _ => .blk ((G1 0).b) #[iv 0, iv 0, iv 0, iv 0, iv 0, iv 0, iv 0, .slice none 0 0, iv 0, .slice none 0 0] 32),.k (iv 3)] fun _ _ G41 => ?_
    intro S_ s_
    refine V.nilF (α := Int) ?_
    refine V.nilF (α := Int) ?_
    have e7 : ([] : List Int) = Fr.rD (((Un.read s).1).isSome = true) (Un.fv ((Un.read s).1)) := (Fr.Fz.no (Un.is_n (by rw [hrd])) (Un.fv (Un.read s).1)).2.1
    rw [← e7]
    have e9 : ([] : List Int) = Fr.rE (((Un.read s).1).isSome = true) (Un.fv ((Un.read s).1)) := (Fr.Fz.no (Un.is_n (by rw [hrd])) (Un.fv (Un.read s).1)).2.2.2
    rw [← e9]
    have e0 : (0 : Int) = Un.dv ((Un.read s).1) 0 := (Un.dv_n (by rw [hrd]) 0).symm
    have e1 : (0 : Int) = Un.dv ((Un.read s).1) 1 := (Un.dv_n (by rw [hrd]) 1).symm
    have e2 : (0 : Int) = Un.dv ((Un.read s).1) 2 := (Un.dv_n (by rw [hrd]) 2).symm
    have e3 : (0 : Int) = Un.dv ((Un.read s).1) 3 := (Un.dv_n (by rw [hrd]) 3).symm
    have e4 : (0 : Int) = Un.dv ((Un.read s).1) 4 := (Un.dv_n (by rw [hrd]) 4).symm
    have e5 : (0 : Int) = Un.dv ((Un.read s).1) 5 := (Un.dv_n (by rw [hrd]) 5).symm
    have e6 : (0 : Int) = Fr.rS (((Un.read s).1).isSome = true) (Un.fv ((Un.read s).1)) := (Fr.Fz.no (Un.is_n (by rw [hrd])) (Un.fv (Un.read s).1)).1
    have e8 : (0 : Int) = Fr.rT (((Un.read s).1).isSome = true) := (Fr.Fz.no (Un.is_n (by rw [hrd])) (Un.fv (Un.read s).1)).2.2.1
    have e10 : (3 : Int) = (Un.read s).2 := by rw [hrd]
    exact V.ret [0, 0] [{}, {}] [fun _ => {}, fun _ => {}] [] [3, 4] [] (.tuple #[.agg #[iv 0, iv 0, iv 0, iv 0, iv 0, iv 0, iv 0, SV.v ({}), iv 0, SV.v ({})], iv 3]) (fun _ _ => by kernel_rfl) (fun _ _ => (Eq.trans (by kernel_rfl) (cong9 (fun (x0 : Int) (x1 : Int) (x2 : Int) (x3 : Int) (x4 : Int) (x5 : Int) (x6 : Int) (x8 : Int) (x10 : Int) => (.tuple #[.agg #[iv x0, iv x1, iv x2, iv x3, iv x4, iv x5, iv x6, SV.v ({}), iv x8, SV.v ({})], iv x10] : Value)) e0 e1 e2 e3 e4 e5 e6 e8 e10)).trans (by kernel_rfl)) (fun _ _ => trivial)
  have hrd := Un.read_ok hsm (by rw [← hl1]; exact hfin) (by have hqq := q8; first | exact hqq | exact Decidable.not_not.1 hqq)
  have hr1 : (Un.read s).1 = some ([out_0, out_1, out_2, out_3, out_4, out_5], (Fr.fq out_6 out_7 out_9)) := by rw [hrd]
  refine V.g [.ld 1 0 true (fun _ => [iv out_0, iv out_1, iv out_2, iv out_3, iv out_4, iv out_5, iv out_6, out_7s.v, iv out_8, out_9s.v]),.st 0 (fun _ => .blk ((G1 0).b) #[iv out_0, iv out_1, iv out_2, iv out_3, iv out_4, iv out_5, iv out_6, out_7s.v, iv out_8, out_9s.v] 32),.k (iv 0)] fun _ _ G42 => ?_
  intro S_ s_
  have e7 : out_7 = Fr.rD (((Un.read s).1).isSome = true) (Un.fv ((Un.read s).1)) := (Fr.Fz.ret (Fr.FrB.z hf4) (Un.is_s hr1) (Un.fv_s hr1).symm).2.1
  subst e7
  have e9 : out_9 = Fr.rE (((Un.read s).1).isSome = true) (Un.fv ((Un.read s).1)) := (Fr.Fz.ret (Fr.FrB.z hf4) (Un.is_s hr1) (Un.fv_s hr1).symm).2.2.2
  subst e9
  have e0 : out_0 = Un.dv ((Un.read s).1) 0 := (Un.dv_s hr1 0).symm
  have e1 : out_1 = Un.dv ((Un.read s).1) 1 := (Un.dv_s hr1 1).symm
  have e2 : out_2 = Un.dv ((Un.read s).1) 2 := (Un.dv_s hr1 2).symm
  have e3 : out_3 = Un.dv ((Un.read s).1) 3 := (Un.dv_s hr1 3).symm
  have e4 : out_4 = Un.dv ((Un.read s).1) 4 := (Un.dv_s hr1 4).symm
  have e5 : out_5 = Un.dv ((Un.read s).1) 5 := (Un.dv_s hr1 5).symm
  have e6 : out_6 = Fr.rS (((Un.read s).1).isSome = true) (Un.fv ((Un.read s).1)) := (Fr.Fz.ret (Fr.FrB.z hf4) (Un.is_s hr1) (Un.fv_s hr1).symm).1
  have e8 : out_8 = Fr.rT (((Un.read s).1).isSome = true) := (Fr.Fz.ret (Fr.FrB.z hf4) (Un.is_s hr1) (Un.fv_s hr1).symm).2.2.1
  have e10 : (0 : Int) = (Un.read s).2 := by rw [hrd]
  exact V.ret [0, 0] [out_7s, out_9s] [fun _ => {}, fun _ => {}] [] [1, 2] [] (.tuple #[.agg #[iv out_0, iv out_1, iv out_2, iv out_3, iv out_4, iv out_5, iv out_6, out_7s.v, iv out_8, out_9s.v], iv 0]) (fun _ _ => by kernel_rfl) (fun _ _ => (Eq.trans (by kernel_rfl) (cong9 (fun (x0 : Int) (x1 : Int) (x2 : Int) (x3 : Int) (x4 : Int) (x5 : Int) (x6 : Int) (x8 : Int) (x10 : Int) => (.tuple #[.agg #[iv x0, iv x1, iv x2, iv x3, iv x4, iv x5, iv x6, out_7s.v, iv x8, out_9s.v], iv x10] : Value)) e0 e1 e2 e3 e4 e5 e6 e8 e10)).trans (by kernel_rfl)) (fun _ _ => trivial)
theorem uread_ctv (s : ByteArray) (hs : s.size ≤ 1000000) (rv0 : Int) (erv0 : rv0 = Un.dv ((Un.read s).1) 0) (rv1 : Int) (erv1 : rv1 = Un.dv ((Un.read s).1) 1) (rv2 : Int) (erv2 : rv2 = Un.dv ((Un.read s).1) 2) (rv3 : Int) (erv3 : rv3 = Un.dv ((Un.read s).1) 3) (rv4 : Int) (erv4 : rv4 = Un.dv ((Un.read s).1) 4) (rv5 : Int) (erv5 : rv5 = Un.dv ((Un.read s).1) 5) (rv6 : Int) (erv6 : rv6 = Fr.rS (((Un.read s).1).isSome = true) (Un.fv ((Un.read s).1))) (rv7 : List Int) (erv7 : rv7 = Fr.rD (((Un.read s).1).isSome = true) (Un.fv ((Un.read s).1))) (rv8 : Int) (erv8 : rv8 = Fr.rT (((Un.read s).1).isSome = true)) (rv9 : List Int) (erv9 : rv9 = Fr.rE (((Un.read s).1).isSome = true) (Un.fv ((Un.read s).1))) (rv10 : Int) (erv10 : rv10 = (Un.read s).2) :
    Ct Try.prog 13 #[tv s] [] [] (fun g => .tuple #[.agg #[iv rv0, iv rv1, iv rv2, iv rv3, iv rv4, iv rv5, iv rv6, ((g.ss 0)).v, iv rv8, ((g.ss 1)).v], iv rv10]) (fun g => [fs true rv7 (g.ss 0), fs true rv9 (g.ss 1)]) (fun g => []) (fun g => []) := by
  subst erv0 erv1 erv2 erv3 erv4 erv5 erv6 erv7 erv8 erv9 erv10; exact uread_ct s hs

open Go
namespace Dm
theorem ne_empty {s : ByteArray} : s ≠ ByteArray.empty ↔ bl s ≠ [] := ⟨fun h e => h (bl_inj e), fun h e => h (by rw [e]; rfl)⟩
theorem cpB_iff {s p : ByteArray} : cpB s p ↔ bl p <+: bl s := by
  unfold cpB
  constructor
  · rintro ⟨h1, h2⟩
    have h3 : bl p = (bl s).take p.size := by
      rw [← h2, bl_extract]
      have : (s.extract 0 p.size).size = p.size := by rw [h2]
      rw [this, List.drop_zero]
    rw [h3]; exact List.take_prefix _ _
  · intro h
    have hl := h.length_le
    rw [bl_len, bl_len] at hl
    refine ⟨by omega, bl_inj ?_⟩
    rw [bl_extract, List.drop_zero, ← bl_len]
    exact (List.prefix_iff_eq_take.1 h).symm
theorem cpR_bl {s p : ByteArray} (h : cpB s p) : bl (cpR s p) = (bl s).drop p.size := by
  unfold cpR
  rw [if_pos h, bl_extract, ← bl_len s, List.take_length]
theorem cpR_of {s p r : ByteArray} (h : bl s = bl p ++ bl r) : cpB s p ∧ cpR s p = r := by
  have h1 : cpB s p := cpB_iff.2 ⟨_, h.symm⟩
  refine ⟨h1, bl_inj ?_⟩
  rw [cpR_bl h1, h, List.drop_left' (by simp)]
theorem cpB_not {s p : ByteArray} {x y : UInt8} {l m : List UInt8} (h1 : bl s = x :: l) (h2 : bl p = y :: m) (h : x ≠ y) : ¬ cpB s p := by
  rw [cpB_iff, h1, h2]
  rintro ⟨t, ht⟩
  simp at ht
  exact h ht.1.symm
theorem sy_fst : ∀ n, n < 6 → ∃ m, bl (sy.getD n default) = ([103, 109, 115, 74, 99, 112] : List UInt8).getD n 0 :: m
  | 0, _ => ⟨_, rfl⟩
  | 1, _ => ⟨_, rfl⟩
  | 2, _ => ⟨_, rfl⟩
  | 3, _ => ⟨_, rfl⟩
  | 4, _ => ⟨_, rfl⟩
  | 5, _ => ⟨_, rfl⟩
theorem bl_item {s : ByteArray} {e : Int} : bl (item s e) = bl s ++ (if e = 1 then [] else [UInt8.ofNat (48 + e).toNat]) := by
  unfold item
  split
  · simp
  · rw [bl_append]; rfl
def tk (x : Nat × Int) : List UInt8 := (if 0 < x.2 then 42 else 47) :: bl (item (sy.getD x.1 default) (if 0 < x.2 then x.2 else -x.2))
def tks (l : List (Nat × Int)) : List UInt8 := (l.map tk).flatten
theorem tks_cons (x : Nat × Int) (l : List (Nat × Int)) : tks (x :: l) = tk x ++ tks l := by simp [tks]
theorem tks_append (l m : List (Nat × Int)) : tks (l ++ m) = tks l ++ tks m := by simp [tks]
def poN (D : List Int) : Nat → List (Nat × Int)
  | 0 => []
  | n + 1 => if 0 < D.getD n 0 then poN D n ++ [(n, D.getD n 0)] else poN D n
def neN (D : List Int) : Nat → List (Nat × Int)
  | 0 => []
  | n + 1 => if D.getD n 0 < 0 then neN D n ++ [(n, D.getD n 0)] else neN D n
theorem be_tks {D : List Int} : ∀ n, bl (beN D n) = tks (neN D n)
  | 0 => rfl
  | n + 1 => by
    unfold beN neN
    by_cases h : D.getD n 0 < 0
    · rw [if_pos h, if_pos h, bl_append, bl_append, be_tks n, tks_append, tks_cons]
      unfold tk
      simp only [if_neg (show ¬ 0 < D.getD n 0 by omega)]
      show _ ++ (bl ⟨#[47]⟩ ++ _) = _ ++ (_ ++ [])
      rw [List.append_nil]; rfl
    · rw [if_neg h, if_neg h, be_tks n]
theorem ab_tks {D : List Int} : ∀ n, Lib.joinTail [42] ((abN D n).map bl) = tks (poN D n)
  | 0 => rfl
  | n + 1 => by
    unfold abN poN
    by_cases h : 0 < D.getD n 0
    · rw [if_pos h, if_pos h, tks_append, tks_cons, ← ab_tks n]
      unfold tk
      simp only [if_pos h]
      simp [Lib.joinTail, tks]
    · rw [if_neg h, if_neg h, ab_tks n]
theorem text_y {D : List Int} (h : Rt D) : bl (text D) = Lib.join ((ab D).map bl) [42] ++ bl (beN D 6) := by
  unfold text
  rw [if_pos h, bl_append]
  congr 1
theorem abN_item {D : List Int} : ∀ n, n ≤ 6 → ∀ x ∈ abN D n, ∃ j, j < 6 ∧ ∃ e, x = item (sy.getD j default) e
  | 0, _, x, h => by cases h
  | n + 1, hn, x, h => by
    unfold abN at h
    split at h
    · rcases List.mem_append.1 h with h | h
      · exact abN_item n (by omega) x h
      · exact ⟨n, by omega, D.getD n 0, by simpa using h⟩
    · exact abN_item n (by omega) x h
theorem start_tks {D : List Int} (h : Rt D) : bl (start (text D)) = tks (poN D 6 ++ neN D 6) ∧ bl (text D) ≠ [] := by
  have ht := text_y h
  have hp := ab_tks (D := D) 6
  rw [tks_append, ← hp, ← be_tks]
  unfold ab at ht
  cases hab : abN D 6 with
  | nil =>
    rw [hab] at ht
    have ht' : bl (text D) = bl ⟨#[49]⟩ ++ bl (beN D 6) := ht
    obtain ⟨h1, h2⟩ := cpR_of ht'
    unfold start
    rw [if_pos h1, h2]
    exact ⟨rfl, by rw [ht']; exact List.cons_ne_nil _ _⟩
  | cons x l =>
    rw [hab, if_neg (by simp), List.map_cons, Lib.join_cons] at ht
    obtain ⟨j, hj, e, hx⟩ := abN_item 6 (Nat.le_refl _) x (by rw [hab]; exact List.mem_cons_self)
    obtain ⟨m, hm⟩ := sy_fst j hj
    have hb : bl x = ([103, 109, 115, 74, 99, 112] : List UInt8).getD j 0 :: (m ++ if e = 1 then [] else [UInt8.ofNat (48 + e).toNat]) := by rw [hx, bl_item, hm]; rfl
    have ht2 := ht
    rw [hb, List.cons_append, List.cons_append] at ht2
    have hne : ∀ j, j < 6 → ([103, 109, 115, 74, 99, 112] : List UInt8).getD j 0 ≠ 49 := by decide
    have hn : ¬ cpB (text D) ⟨#[49]⟩ := cpB_not ht2 (y := 49) (m := []) rfl (hne j hj)
    unfold start
    rw [if_neg hn, bl_append, ht]
    refine ⟨?_, by rw [← ht, ht2]; exact List.cons_ne_nil _ _⟩
    show [42] ++ (_ ++ _ ++ _) = _
    unfold Lib.joinTail
    simp
theorem text_ne {D : List Int} : text D ≠ ByteArray.empty ↔ Rt D := by
  refine ⟨fun h => ?_, fun h => ne_empty.2 (start_tks h).2⟩
  unfold text at h
  split at h
  · assumption
  · exact absurd rfl h
theorem read_empty : read ByteArray.empty = none := by decide +kernel
theorem read_some {s : ByteArray} {d : List Int} (h : read s = some d) : text d = s ∧ Rt d := by
  have h0 := h
  unfold read at h
  split at h
  · cases h
  · split at h
    · rename_i ht
      obtain rfl := Option.some.inj h
      refine ⟨ht, text_ne.1 fun e => ?_⟩
      rw [ht] at e
      rw [e, read_empty] at h0; cases h0
    · cases h
end Dm

open Go
namespace Un
open Fr Bg
def Sg (q : ByteArray) : Prop := bl q = [] ∨ ∃ c l, bl q = c :: l ∧ ((c.toNat : Int) = 42 ∨ (c.toNat : Int) = 47)
theorem Sg.nl {q : ByteArray} (h : Sg q) : nlL (bl q) = 0 := by
  rcases h with h | ⟨c, l, h, k⟩
  · rw [h]; rfl
  · rw [h]; unfold nlL; rw [if_neg]; unfold ltr; omega
theorem Sg.num {q : ByteArray} (h : Sg q) : ¬ num q := by
  rintro ⟨⟨h1, h2⟩, h3⟩
  rcases h with h | ⟨c, l, h, k⟩
  · exact h1 (bl_inj h)
  · rw [h] at h2; have e : (c :: l).getD 0 default = c := rfl
    rw [e] at h2; omega
def Z6 : List Int := [0, 0, 0, 0, 0, 0]
theorem acc_len : ∀ (l : List Ditem) (u v : U), u.1.length = 6 → acc l u = some v → v.1.length = 6
  | [], u, v, h, k => by obtain rfl := Option.some.inj k; exact h
  | x :: l, u, v, h, k => by
    unfold acc at k
    split at k
    · exact acc_len l _ v rfl k
    · cases k
structure RdIs (s : ByteArray) (l : List Ditem) (d : List Int) (r : Rat) : Prop where
  it : items s = some l
  ac : acc l (Z6, 1) = some (d, r)
  rt : Dm.Rt d
  len : d.length = 6
theorem read_is {s : ByteArray} (h : (read s).2 = 0) : ∃ l d r, RdIs s l d r ∧ read s = (some (d, r), 0) := by
  unfold read at h ⊢
  split at h
  · rename_i hi
    rw [if_pos hi]
    unfold fin at h ⊢
    split at h
    · rename_i ha
      rw [if_pos ha]
      split at h
      · rename_i hr
        rw [if_pos hr]
        obtain ⟨⟨d, r⟩, hx⟩ := Option.isSome_iff_exists.1 ha
        obtain ⟨l, hl⟩ := Option.isSome_iff_exists.1 hi
        rw [hl] at hx hr
        rw [hl]
        simp only [Option.getD_some] at hx hr ⊢
        rw [hx] at hr ⊢
        exact ⟨l, d, r, ⟨hl, hx, hr, acc_len l _ _ rfl hx⟩, rfl⟩
      · simp at h
    · simp at h
  · simp at h
theorem RdIs.read {s : ByteArray} {l : List Ditem} {d : List Int} {r : Rat} (h1 : items s = some l) (h2 : acc l (Z6, 1) = some (d, r)) : Un.read s = if Dm.Rt d then (some (d, r), 0) else (none, 3) := by
  have hi : (items s).isSome = true := by rw [h1]; rfl
  by_cases hd : Dm.Rt d
  · rw [if_pos hd]; exact read_ok hi (by rw [h1]; exact h2) hd
  · rw [if_neg hd]; exact read_rng hi (by rw [h1]; exact h2) hd
end Un

open Go
namespace Un
open Fr Bg
def UR (d : List Int) (ps : Int) (pd : List Int) (qs : Int) (qd : List Int) : Prop := Dm.Rt d ∧ FrB ps pd qs qd ∧ 0 < ps
instance (d : List Int) (ps : Int) (pd : List Int) (qs : Int) (qd : List Int) : Decidable (UR d ps pd qs qd) := by unfold UR; infer_instance
theorem UR.pos {d : List Int} {ps qs : Int} {pd qd : List Int} (h : UR d ps pd qs qd) : 0 < fq ps pd qd := by
  have := h.2.1.eqs.1
  have h0 := h.2.2
  rw [this] at h0
  exact sgn_num.2.2.1 h0
theorem UR.ps {d : List Int} {ps qs : Int} {pd qd : List Int} (h : UR d ps pd qs qd) : ps ≠ 0 := by have := h.2.2; omega
theorem intz (n : Int) : Fz (sgn n) (dig n.natAbs) 1 (dig 1) (n : Rat) := ⟨FrB.of (n : Rat), fq_of (n : Rat)⟩
def vec (o : Option U) : List Int := [dv o 0, dv o 1, dv o 2, dv o 3, dv o 4, dv o 5]
def means (s d : ByteArray) (p q : Int) : Prop := ((read s).2 = 0 ∧ Dm.text (vec (read s).1) = d) ∧ (read s).1.isSome = true ∧ fv (read s).1 = Rat.divInt p q
instance (s d : ByteArray) (p q : Int) : Decidable (means s d p q) := by unfold means; infer_instance
theorem read_some {s : ByteArray} (h : (read s).2 = 0) : (read s).1.isSome = true := by
  obtain ⟨l, d, r, _, h2⟩ := read_is h
  rw [h2]; rfl
end Un

open Go Go.Proofs
set_option maxRecDepth 10000 in
theorem samebig_ct (a_Sign : Int) (a_Digits : List Int) (a_Digitss : SV) (b_Sign : Int) (b_Digits : List Int) (b_Digitss : SV) :
    Cp Try.prog 52 #[ag (DBig.mk a_Sign ⟨a_Digits, a_Digitss⟩), ag (DBig.mk b_Sign ⟨b_Digits, b_Digitss⟩)] [fs true a_Digits a_Digitss, fs true b_Digits b_Digitss] (bv (decide (a_Sign = b_Sign ∧ a_Digits = b_Digits))) := by
  refine V.fn mo Try.func52 38 2 (by kernel_rfl) fun w H ε k0 => ?_
  obtain ⟨⟨kl1, -⟩, ⟨kl2, -⟩, -⟩ : Lq a_Digits a_Digitss.v ∧ Lq b_Digits b_Digitss.v ∧ True := kn k0 (by kernel_rfl)
  clear k0
  refine V.g [.nb 0 0 (fun b => pp b 0) 28 (fun _ => ca (DBig.mk a_Sign ⟨a_Digits, a_Digitss⟩)),.nb 1 1 (fun b => pp b 0) 28 (fun _ => ca (DBig.mk b_Sign ⟨b_Digits, b_Digitss⟩)),.kb false] fun _ _ G1 => ?_
  intro S_ s_
  refine nm ((!(decide (a_Sign = b_Sign))) || (!(decide ((a_Digits.length : Int) = (b_Digits.length : Int)))) : Bool) fun p1 hp1 => ?_
  refine V.g [.k (pp ((G1 0).b) 0),.ld 0 0 false (fun _ => [iv a_Sign]),.k (pp ((G1 1).b) 0),.ld 1 0 false (fun _ => [iv b_Sign]),.k (bv (!(decide (a_Sign = b_Sign)))),.k (bv (!(decide (a_Sign = b_Sign)))),.k (pp ((G1 0).b) 1),.ld 0 1 false (fun _ => [a_Digitss.v]),.ln (kf false (.f 0) a_Digits (fun _ => a_Digitss)),.k (pp ((G1 1).b) 1),.ld 1 1 false (fun _ => [b_Digitss.v]),.ln (kf false (.f 1) b_Digits (fun _ => b_Digitss)),.k (bv (!(decide ((a_Digits.length : Int) = (b_Digits.length : Int))))),.orn g0 false (!(decide (a_Sign = b_Sign))) (!(decide ((a_Digits.length : Int) = (b_Digits.length : Int)))) p1 hp1] fun _ _ G2 => ?_
  intro S_ s_
  refine V.cond (b := p1) (iN hp1 (iOT (iNT iDF) (iNT iDF))) (iN hp1 (iOF (iNF iDT) (iNF iDT))) (by kernel_rfl) (fun q1 => ?_) (fun q2 => ?_)
  · refine V.g [.kb false] fun _ _ G3 => ?_
    intro S_ s_
    have e0 : false = decide (a_Sign = b_Sign ∧ a_Digits = b_Digits) := by exact (decide_eq_false fun h => by have hqq := q1; rcases hqq with h1 | h1; exact h1 h.1; exact h1 (by rw [h.2])).symm
    exact V.ret [0] [] [] [] [] [] (bv false) (fun _ _ => by kernel_rfl) (fun _ _ => (Eq.trans (by kernel_rfl) (cong1 (fun (x0 : Bool) => (bv x0 : Value)) e0)).trans (by kernel_rfl)) (fun _ _ => trivial)
  refine V.g [.k (iv 0)] fun _ _ G4 => ?_
  intro S_ s_
  refine V.loop (γ := Int) (fun i => ⟨[(2, pp ((G1 0).b) 0), (3, pp ((G1 1).b) 0), (5, iv i)], [fs false a_Digits a_Digitss, fs false b_Digits b_Digitss], [.blk ((G1 0).b) (ca (DBig.mk a_Sign ⟨a_Digits, a_Digitss⟩)) 28, .blk ((G1 1).b) (ca (DBig.mk b_Sign ⟨b_Digits, b_Digitss⟩)) 28]⟩) (fun i => (0 ≤ i) ∧ (i ≤ (a_Digits.length : Int)) ∧ (0 ≤ i) ∧ (i ≤ (a_Digits.length : Int)) ∧ (∀ j, j < i.toNat → a_Digits.getD j default = b_Digits.getD j default)) (fun i => ((a_Digits.length : Int) - i).toNat) 0 (by kernel_rfl) [0, 1] (by kernel_rfl) ?_ ?_
  · refine ⟨?_, ?_, ?_, ?_, ?_⟩
    · show 0 ≤ (0 : Int)
      first | omega | rfl | (simp; done) | (subst_vars; simp; done)
    · show (0 : Int) ≤ (a_Digits.length : Int)
      first | omega | rfl | (simp; done) | (subst_vars; simp; done)
    · show 0 ≤ (0 : Int)
      omega
    · show (0 : Int) ≤ (a_Digits.length : Int)
      omega
    show ∀ j, j < (0 : Int).toNat → a_Digits.getD j default = b_Digits.getD j default
    intro j hj; simp at hj
  rintro i hF1 kw5 Z1 hZ1
  have hF1 : (0 ≤ i) ∧ (i ≤ (a_Digits.length : Int)) ∧ (0 ≤ i) ∧ (i ≤ (a_Digits.length : Int)) ∧ (∀ j, j < i.toNat → a_Digits.getD j default = b_Digits.getD j default) := hF1
  obtain ⟨hf1, hf2, hf3, hf4, hf5⟩ := hF1
  clear kw5
  refine V.g [.k (iv i),.k (pp ((G1 0).b) 1),.ld 0 1 false (fun _ => [a_Digitss.v]),.ln (kf false (.f 0) a_Digits (fun _ => a_Digitss)),.k (bv (decide (i < (a_Digits.length : Int))))] fun _ _ G5 => ?_
  intro S_ s_
  refine V.cond (b := decide (i < (a_Digits.length : Int))) iDT iDF (by kernel_rfl) (fun q3 => ?_) (fun q4 => ?_)
  · refine nm (a_Digits.getD i.toNat default : Int) fun v1 hv1 => ?_
    refine nm (b_Digits.getD i.toNat default : Int) fun v2 hv2 => ?_
    refine V.g [.k (pp ((G1 0).b) 1),.ld 0 1 false (fun _ => [a_Digitss.v]),.k (iv i),.ix g0 (kf false (.f 0) a_Digits (fun _ => a_Digitss)) i (fun _ => ⟨by omega, by omega⟩),.le g0 (kf false (.f 0) a_Digits (fun _ => a_Digitss)) i none false v1 hv1 (fun _ => ⟨by omega, by omega⟩) false (fun _ => [iv v1]),.k (pp ((G1 1).b) 1),.ld 1 1 false (fun _ => [b_Digitss.v]),.k (iv i),.ix g0 (kf false (.f 1) b_Digits (fun _ => b_Digitss)) i (fun _ => ⟨by omega, by omega⟩),.le g0 (kf false (.f 1) b_Digits (fun _ => b_Digitss)) i none false v2 hv2 (fun _ => ⟨by omega, by omega⟩) false (fun _ => [iv v2]),.k (bv (!(decide (v1 = v2))))] fun _ _ G6 => ?_
    intro S_ s_
    refine V.cond (b := !(decide (v1 = v2))) (iNT iDF) (iNF iDT) (by kernel_rfl) (fun q5 => ?_) (fun q6 => ?_)
    · refine V.g [.kb false] fun _ _ G7 => ?_
      intro S_ s_
      have e0 : false = decide (a_Sign = b_Sign ∧ a_Digits = b_Digits) := (decide_eq_false fun h => q5 (by rw [hv1, hv2, h.2])).symm
      exact V.ret [0] [] [] [] [] [] (bv false) (fun _ _ => by kernel_rfl) (fun _ _ => (Eq.trans (by kernel_rfl) (cong1 (fun (x0 : Bool) => (bv x0 : Value)) e0)).trans (by kernel_rfl)) (fun _ _ => trivial)
    refine V.g [.k (iv i),.a (i + 1) (by omega) (by omega),.k (iv (i + 1))] fun _ _ G8 => ?_
    intro S_ s_
    refine V.rnd hZ1 (i + 1) [0, 1] (by kernel_rfl) ?_ ?_
    · refine ⟨?_, ?_, ?_, ?_, ?_⟩
      · show 0 ≤ (i + 1)
        omega
      · show (i + 1) ≤ (a_Digits.length : Int)
        omega
      · show 0 ≤ (i + 1)
        omega
      · show (i + 1) ≤ (a_Digits.length : Int)
        omega
      show ∀ j, j < (i + 1).toNat → a_Digits.getD j default = b_Digits.getD j default
      intro j hj; by_cases e : j < i.toNat
      · exact hf5 j e
      rw [show j = i.toNat by omega, ← hv1, ← hv2]; exact (by have hqq := q6; first | exact hqq | exact Decidable.not_not.1 hqq)
    show ((a_Digits.length : Int) - (i + 1)).toNat < ((a_Digits.length : Int) - i).toNat
    omega
  refine V.g [.kb true] fun _ _ G9 => ?_
  intro S_ s_
  have e0 : true = decide (a_Sign = b_Sign ∧ a_Digits = b_Digits) := (decide_eq_true ⟨by omega, Bg.eq_of_getD (by omega) fun j hj => hf5 j (by omega)⟩).symm
  exact V.ret [0] [] [] [] [] [] (bv true) (fun _ _ => by kernel_rfl) (fun _ _ => (Eq.trans (by kernel_rfl) (cong1 (fun (x0 : Bool) => (bv x0 : Value)) e0)).trans (by kernel_rfl)) (fun _ _ => trivial)
set_option maxRecDepth 10000 in
theorem same5_ct (a_P_Sign : Int) (a_P_Digits : List Int) (a_P_Digitss : SV) (a_Q_Sign : Int) (a_Q_Digits : List Int) (a_Q_Digitss : SV) (b_P_Sign : Int) (b_P_Digits : List Int) (b_P_Digitss : SV) (b_Q_Sign : Int) (b_Q_Digits : List Int) (b_Q_Digitss : SV) :
    Cp Try.prog 15 #[ag (DFrac.mk (DBig.mk a_P_Sign ⟨a_P_Digits, a_P_Digitss⟩) (DBig.mk a_Q_Sign ⟨a_Q_Digits, a_Q_Digitss⟩)), ag (DFrac.mk (DBig.mk b_P_Sign ⟨b_P_Digits, b_P_Digitss⟩) (DBig.mk b_Q_Sign ⟨b_Q_Digits, b_Q_Digitss⟩))] [fs true a_P_Digits a_P_Digitss, fs true a_Q_Digits a_Q_Digitss, fs true b_P_Digits b_P_Digitss, fs true b_Q_Digits b_Q_Digitss] (bv (decide (a_P_Sign = b_P_Sign ∧ a_P_Digits = b_P_Digits ∧ a_Q_Sign = b_Q_Sign ∧ a_Q_Digits = b_Q_Digits))) := by
  refine V.fn mo Try.func15 17 2 (by kernel_rfl) fun w H ε k0 => ?_
  obtain ⟨⟨kl1, -⟩, ⟨kl2, -⟩, ⟨kl3, -⟩, ⟨kl4, -⟩, -⟩ : Lq a_P_Digits a_P_Digitss.v ∧ Lq a_Q_Digits a_Q_Digitss.v ∧ Lq b_P_Digits b_P_Digitss.v ∧ Lq b_Q_Digits b_Q_Digitss.v ∧ True := kn k0 (by kernel_rfl)
  clear k0
  refine V.g [.nb 0 0 (fun b => pp b 0) 30 (fun _ => ca (DFrac.mk (DBig.mk a_P_Sign ⟨a_P_Digits, a_P_Digitss⟩) (DBig.mk a_Q_Sign ⟨a_Q_Digits, a_Q_Digitss⟩))),.nb 1 1 (fun b => pp b 0) 30 (fun _ => ca (DFrac.mk (DBig.mk b_P_Sign ⟨b_P_Digits, b_P_Digitss⟩) (DBig.mk b_Q_Sign ⟨b_Q_Digits, b_Q_Digitss⟩))),.kb false] fun _ _ G1 => ?_
  intro S_ s_
  refine nm ((decide (a_P_Sign = b_P_Sign ∧ a_P_Digits = b_P_Digits)) && (decide (a_Q_Sign = b_Q_Sign ∧ a_Q_Digits = b_Q_Digits)) : Bool) fun p1 hp1 => ?_
  refine V.g [.k (pp ((G1 0).b) 0),.ld 0 0 true (fun _ => Dat.cells (DBig.mk a_P_Sign ⟨a_P_Digits, a_P_Digitss⟩)),.k (pp ((G1 1).b) 0),.ld 1 0 true (fun _ => Dat.cells (DBig.mk b_P_Sign ⟨b_P_Digits, b_P_Digitss⟩)),.cp g0 4 52 [(kf false (.f 0) a_P_Digits (fun _ => a_P_Digitss)).a, (kf false (.f 2) b_P_Digits (fun _ => b_P_Digitss)).a] (fun _ G => samebig_ct a_P_Sign a_P_Digits a_P_Digitss b_P_Sign b_P_Digits b_P_Digitss),.k (bv (decide (a_P_Sign = b_P_Sign ∧ a_P_Digits = b_P_Digits))),.k (pp ((G1 0).b) 2),.ld 0 2 true (fun _ => Dat.cells (DBig.mk a_Q_Sign ⟨a_Q_Digits, a_Q_Digitss⟩)),.k (pp ((G1 1).b) 2),.ld 1 2 true (fun _ => Dat.cells (DBig.mk b_Q_Sign ⟨b_Q_Digits, b_Q_Digitss⟩)),.cp (gT (b := decide (a_P_Sign = b_P_Sign ∧ a_P_Digits = b_P_Digits)) iDT) 10 52 [(kf false (.f 1) a_Q_Digits (fun _ => a_Q_Digitss)).a, (kf false (.f 3) b_Q_Digits (fun _ => b_Q_Digitss)).a] (fun hg G => samebig_ct a_Q_Sign a_Q_Digits a_Q_Digitss b_Q_Sign b_Q_Digits b_Q_Digitss),.andn g0 false (decide (a_P_Sign = b_P_Sign ∧ a_P_Digits = b_P_Digits)) (decide (a_Q_Sign = b_Q_Sign ∧ a_Q_Digits = b_Q_Digits)) p1 hp1,.k (bv p1)] fun _ _ G2 => ?_
  intro S_ s_
  have e0 : p1 = decide (a_P_Sign = b_P_Sign ∧ a_P_Digits = b_P_Digits ∧ a_Q_Sign = b_Q_Sign ∧ a_Q_Digits = b_Q_Digits) := by
    refine Bool.eq_iff_iff.2 (Iff.trans (iN hp1 (iAT iDT iDT)) (Iff.trans ?_ decide_eq_true_iff.symm))
    exact and_assoc
  exact V.ret [0] [] [] [] [] [] (bv p1) (fun _ _ => by kernel_rfl) (fun _ _ => (Eq.trans (by kernel_rfl) (cong1 (fun (x0 : Bool) => (bv x0 : Value)) e0)).trans (by kernel_rfl)) (fun _ _ => trivial)
theorem same5t_ct (a_P_Sign : Int) (a_P_Digits : List Int) (a_P_Digitss : SV) (a_Q_Sign : Int) (a_Q_Digits : List Int) (a_Q_Digitss : SV) (b_P_Sign : Int) (b_P_Digits : List Int) (b_P_Digitss : SV) (b_Q_Sign : Int) (b_Q_Digits : List Int) (b_Q_Digitss : SV) (hT : a_P_Sign = b_P_Sign ∧ a_P_Digits = b_P_Digits ∧ a_Q_Sign = b_Q_Sign ∧ a_Q_Digits = b_Q_Digits) :
    Cp Try.prog 15 #[ag (DFrac.mk (DBig.mk a_P_Sign ⟨a_P_Digits, a_P_Digitss⟩) (DBig.mk a_Q_Sign ⟨a_Q_Digits, a_Q_Digitss⟩)), ag (DFrac.mk (DBig.mk b_P_Sign ⟨b_P_Digits, b_P_Digitss⟩) (DBig.mk b_Q_Sign ⟨b_Q_Digits, b_Q_Digitss⟩))] [fs true a_P_Digits a_P_Digitss, fs true a_Q_Digits a_Q_Digitss, fs true b_P_Digits b_P_Digitss, fs true b_Q_Digits b_Q_Digitss] (bv (true)) := by
  have h := same5_ct  a_P_Sign a_P_Digits a_P_Digitss a_Q_Sign a_Q_Digits a_Q_Digitss b_P_Sign b_P_Digits b_P_Digitss b_Q_Sign b_Q_Digits b_Q_Digitss ; rw [decide_eq_true hT] at h; exact h

open Go
namespace Un
open Fr Bg
def ofs (s : ByteArray) (a : Nat) : ByteArray := s.extract a s.size
theorem bl_ofs {s : ByteArray} {a : Nat} : bl (ofs s a) = (bl s).drop a := by
  unfold ofs; rw [bl_extract, ← bl_len, List.take_length]
theorem ofs_size {s : ByteArray} {a : Nat} : (ofs s a).size = s.size - a := by
  rw [← bl_len, bl_ofs, List.length_drop, bl_len]
theorem ofs_get {s : ByteArray} {a j : Nat} : (bl (ofs s a)).getD j default = (bl s).getD (a + j) default := by
  rw [bl_ofs, List.getD_eq_getElem?_getD, List.getElem?_drop, ← List.getD_eq_getElem?_getD]
theorem ofs_end {s : ByteArray} {a : Nat} (h : s.size ≤ a) : ofs s a = ByteArray.empty := bl_inj (by rw [bl_ofs, List.drop_of_length_le (by rw [bl_len]; exact h)]; rfl)
theorem ofs_ne {s : ByteArray} {a : Nat} (h : a < s.size) : ¬ ofs s a = ByteArray.empty := fun e => by
  have := congrArg ByteArray.size e
  rw [ofs_size] at this
  have h0 : (ByteArray.empty).size = 0 := rfl
  omega
theorem ofs_ofs {s : ByteArray} {a b : Nat} : (ofs s a).extract b (ofs s a).size = ofs s (a + b) := bl_inj (by
  rw [bl_extract, ← bl_len, List.take_length, bl_ofs, bl_ofs, List.drop_drop])
def spN (s : ByteArray) (a : Nat) : Nat := a + nl (ofs s a) + (if num (rest (ofs s a)) then 1 else 0)
theorem rest_ofs {s : ByteArray} {a : Nat} : rest (ofs s a) = ofs s (a + nl (ofs s a)) := by unfold rest; exact ofs_ofs
theorem num_ofs {s : ByteArray} {i : Nat} : num (ofs s i) ↔ i < s.size ∧ 50 ≤ (((bl s).getD i default).toNat : Int) ∧ (((bl s).getD i default).toNat : Int) ≤ 57 := by
  unfold num
  rw [ofs_get, Nat.add_zero]
  constructor
  · rintro ⟨⟨h1, h2⟩, h3⟩
    exact ⟨Classical.byContradiction fun h => h1 (ofs_end (by omega)), h2, h3⟩
  · rintro ⟨h1, h2, h3⟩
    exact ⟨⟨ofs_ne h1, h2⟩, h3⟩
structure Spl (s : ByteArray) (a i : Nat) : Prop where
  n : nl (ofs s a) = i - a
  le : a ≤ i
  sz : i ≤ s.size
theorem Spl.y {s : ByteArray} {a i : Nat} (h : Spl s a i) (h1 : i < s.size) (h2 : 50 ≤ (((bl s).getD i default).toNat : Int)) (h3 : (((bl s).getD i default).toNat : Int) ≤ 57) : cuE (ofs s a) = (((bl s).getD i default).toNat : Int) - 48 ∧ spN s a = i + 1 := by
  have e : rest (ofs s a) = ofs s i := by rw [rest_ofs, h.n]; congr 1; have := h.le; omega
  have hn : num (rest (ofs s a)) := by rw [e]; exact num_ofs.2 ⟨h1, h2, h3⟩
  have hle := h.le
  unfold cuE spN
  rw [if_pos hn, if_pos hn, e, ofs_get, Nat.add_zero, h.n]
  exact ⟨rfl, by omega⟩
theorem Spl.no {s : ByteArray} {a i : Nat} (h : Spl s a i) (k : ¬ (i < s.size ∧ 50 ≤ (((bl s).getD i default).toNat : Int) ∧ (((bl s).getD i default).toNat : Int) ≤ 57)) : cuE (ofs s a) = 1 ∧ spN s a = i := by
  have e : rest (ofs s a) = ofs s i := by rw [rest_ofs, h.n]; congr 1; have := h.le; omega
  have hn : ¬ num (rest (ofs s a)) := by rw [e]; exact fun x => k (num_ofs.1 x)
  have hle := h.le
  unfold cuE spN
  rw [if_neg hn, if_neg hn, h.n]
  exact ⟨rfl, by omega⟩
end Un

open Go
namespace Un
open Fr Bg
theorem acc_pos : ∀ (l : List Ditem) (u v : U), 0 < u.2 → acc l u = some v → 0 < v.2
  | [], u, v, h, k => by obtain rfl := Option.some.inj k; exact h
  | x :: l, u, v, h, k => by
    unfold acc at k
    split at k
    · rename_i hw
      exact acc_pos l _ v (tm_pos h (word_ok (some_of hw)).2.2.1 _) k
    · cases k
theorem acc_hb : ∀ (l : List Ditem) (u v : U) (i : Nat), (∀ x ∈ l, itOk x) → Hb u.2 i → acc l u = some v → Hb v.2 (i + 36 * l.length)
  | [], u, v, i, _, h, k => by obtain rfl := Option.some.inj k; exact h
  | x :: l, u, v, i, hx, h, k => by
    unfold acc at k
    split at k
    · rename_i hw
      have h1 := tm_hb h (word_ok (some_of hw)).2.2.2 (hx x List.mem_cons_self).2
      have h2 := acc_hb l _ v _ (fun y hy => hx y (List.mem_cons_of_mem _ hy)) h1 k
      refine h2.mono ?_
      rw [List.length_cons]; omega
    · cases k
structure Rd (s : ByteArray) (l : List Ditem) (d : List Int) (r : Rat) : Prop extends RdIs s l d r where
  rd : read s = (some (d, r), 0)
  pos : 0 < r
  hb : Hb r 1477
theorem rd_of {s : ByteArray} (h : (read s).2 = 0) : ∃ l d r, Rd s l d r := by
  obtain ⟨l, d, r, h1, h2⟩ := read_is h
  have ho := items_ok h1.it
  refine ⟨l, d, r, h1, h2, acc_pos l _ _ (by decide) h1.ac, (acc_hb l _ _ 1 ho.2 (by decide +kernel) h1.ac).mono ?_⟩
  have := ho.1
  omega
end Un

open Go
namespace Tb
open Fr Bg
theorem ltle {a b c : Rat} (h : a < b) (k : b ≤ c) : a < c := Rat.not_le.1 fun x => absurd (Rat.le_trans k x) (Rat.not_le.2 h)
def dgt (c : Int) : Prop := 48 ≤ c ∧ c ≤ 57
def inn (c : Int) : Prop := (Un.ltr c ∨ dgt c) ∨ c = 95
instance (c : Int) : Decidable (dgt c) := by unfold dgt; infer_instance
instance (c : Int) : Decidable (inn c) := by unfold inn; infer_instance
def spL : List UInt8 → Nat
  | [] => 0
  | c :: l => if inn (c.toNat : Int) then spL l + 1 else 0
def spn (s : ByteArray) : Nat := spL (bl s)
theorem spL_at : ∀ {l : List UInt8} {n : Nat}, n ≤ l.length → (∀ j, j < n → inn ((l.getD j default).toNat : Int)) → (n = l.length ∨ ¬ inn ((l.getD n default).toNat : Int)) → spL l = n
  | [], n, hn, _, _ => by simp at hn; subst hn; rfl
  | c :: l, 0, _, _, h => by
    rcases h with h | h
    · simp at h
    · unfold spL; rw [if_neg (by simpa using h)]
  | c :: l, n + 1, hn, hj, h => by
    unfold spL
    rw [if_pos (by simpa using hj 0 (by omega)), spL_at (by simpa using hn) (fun j hj' => by have := hj (j + 1) (by omega); simpa using this) (by simpa using h)]
theorem spn_at {s : ByteArray} {n : Nat} (hn : n ≤ s.size) (hj : ∀ j, j < n → inn (((bl s).getD j default).toNat : Int)) (h : n = s.size ∨ ¬ inn (((bl s).getD n default).toNat : Int)) : spn s = n :=
  spL_at (by rw [bl_len]; exact hn) hj (by rw [bl_len]; exact h)
def Nm (s : ByteArray) : Prop := ((¬ s = ByteArray.empty ∧ Un.ltr (((bl s).getD 0 default).toNat : Int)) ∧ (s.size : Int) ≤ 20) ∧ (spn s : Int) = (s.size : Int)
instance (s : ByteArray) : Decidable (Nm s) := by unfold Nm; infer_instance
def inR (n : Int) : Prop := -1099511627776 ≤ n ∧ n ≤ 1099511627776
instance (n : Int) : Decidable (inR n) := by unfold inR; infer_instance
def ky (l : List DRow) (i : Nat) : Int := (l.getD i default).Key
def vl (l : List DRow) (i : Nat) : Int := (l.getD i default).Value
def RowOk (l : List DRow) (i : Nat) : Prop := (inR (ky l i) ∧ inR (vl l i)) ∧ (0 < i → ky l (i - 1) < ky l i)
instance (l : List DRow) (i : Nat) : Decidable (RowOk l i) := by unfold RowOk; infer_instance
def RtT (nm un : ByteArray) (l : List DRow) : Prop := (((Un.read un).2 = 0 ∧ Nm nm) ∧ (l.length : Int) ≤ 100) ∧ ∀ i, i < l.length → RowOk l i
instance rowsDec (l : List DRow) : Decidable (∀ i, i < l.length → RowOk l i) := Nat.decidableBallLT l.length fun i _ => RowOk l i
instance (nm un : ByteArray) (l : List DRow) : Decidable (RtT nm un l) := by
  have d := rowsDec l
  unfold RtT
  exact instDecidableAnd
def So (l : List DRow) : Prop := (∀ a b, a < b → b < l.length → ky l a < ky l b) ∧ (l.length ≤ 100 ∧ ∀ i, i < l.length → inR (ky l i) ∧ inR (vl l i))
theorem RtT.so {nm un : ByteArray} {l : List DRow} (h : RtT nm un l) : So l := by
  refine ⟨?_, by have := h.1.2; omega, fun i hi => (h.2 i hi).1⟩
  intro a b hab hb
  induction b with
  | zero => omega
  | succ b ih =>
    have h1 := (h.2 (b + 1) hb).2 (by omega)
    rw [Nat.add_sub_cancel] at h1
    by_cases e : a = b
    · subst e; exact h1
    · exact Int.lt_trans (ih (by omega) (by omega)) h1
def uf (un : ByteArray) : Rat := Un.fv (Un.read un).1
theorem uf_hb {un : ByteArray} (h : (Un.read un).2 = 0) : Hb (uf un) 1477 ∧ 0 < uf un := by
  obtain ⟨l, d, r, h1⟩ := Un.rd_of h
  have e : uf un = r := by unfold uf; rw [h1.rd]; rfl
  rw [e]; exact ⟨h1.hb, h1.pos⟩
theorem worth_hb {un : ByteArray} (h : (Un.read un).2 = 0) {n : Int} (hn : -9223372036854775808 ≤ n ∧ n ≤ 9223372036854775807) : Hb ((n : Rat) * uf un) 1481 := ((Hb.int hn).mul (uf_hb h).1).mono (by omega)
theorem cmpQ_zero {a b : Rat} : cmpQ a b = 0 ↔ a = b := by
  unfold cmpQ
  by_cases h : a < b
  · rw [if_pos h]; exact ⟨fun k => by omega, fun k => by subst k; exact (Rat.lt_irrefl h).elim⟩
  · rw [if_neg h]
    by_cases e : a = b
    · rw [if_pos e]; exact ⟨fun _ => e, fun _ => rfl⟩
    · rw [if_neg e]; exact ⟨fun k => by omega, fun k => (e k).elim⟩
theorem cmp_le {a b : Rat} : cmpQ a b ≤ 0 ↔ a ≤ b := by
  unfold cmpQ
  by_cases h : a < b
  · rw [if_pos h]; exact ⟨fun _ => Rat.le_of_lt h, fun _ => by decide⟩
  · rw [if_neg h]
    by_cases e : a = b
    · rw [if_pos e]; exact ⟨fun _ => by rw [e]; exact Rat.le_refl, fun _ => by decide⟩
    · rw [if_neg e]
      refine ⟨fun k => by omega, fun k => ?_⟩
      exact absurd (Rat.lt_of_le_of_ne k e) h
def aft : List DRow → Rat → Nat
  | [], _ => 0
  | r :: l, q => if (r.Key : Rat) ≤ q then aft l q + 1 else 0
theorem aft_at : ∀ {l : List DRow} {q : Rat} {i : Nat}, i ≤ l.length → (∀ k, k < i → (ky l k : Rat) ≤ q) → (i = l.length ∨ q < (ky l i : Rat)) → aft l q = i
  | [], q, i, hi, _, _ => by simp at hi; subst hi; rfl
  | r :: l, q, 0, _, _, h => by
    rcases h with h | h
    · simp at h
    · unfold aft; rw [if_neg (show ¬ (r.Key : Rat) ≤ q from Rat.not_le.2 h)]
  | r :: l, q, i + 1, hi, hk, h => by
    unfold aft
    have h0 : (r.Key : Rat) ≤ q := hk 0 (by omega)
    rw [if_pos h0, aft_at (l := l) (i := i) (by simpa using hi) (fun k hk' => hk (k + 1) (by omega)) ?_]
    rcases h with h | h
    · left; simpa using h
    · right; exact h
theorem aft_le : ∀ (l : List DRow) (q : Rat), aft l q ≤ l.length
  | [], _ => Nat.le_refl _
  | r :: l, q => by unfold aft; have := aft_le l q; split <;> simp <;> omega
theorem aft_hi : ∀ {l : List DRow} {q : Rat}, aft l q < l.length → q < (ky l (aft l q) : Rat)
  | [], q, h => by simp at h
  | r :: l, q, h => by
    unfold aft at h ⊢
    split
    · rename_i hr
      rw [if_pos hr] at h
      have := aft_hi (l := l) (q := q) (by simpa using h)
      exact this
    · rename_i hr
      exact Rat.not_le.1 hr
theorem int_le {a b : Int} : (a : Rat) ≤ (b : Rat) ↔ a ≤ b := Rat.intCast_le_intCast
theorem So.le {l : List DRow} (h : So l) {a b : Nat} (hab : a ≤ b) (hb : b < l.length) : (ky l a : Rat) ≤ (ky l b : Rat) := by
  rw [int_le]
  by_cases e : a = b
  · subst e; exact Int.le_refl _
  · exact Int.le_of_lt (h.1 a b (by omega) hb)
theorem So.hi {l : List DRow} (h : So l) {q : Rat} {k : Nat} (hk : aft l q ≤ k) (hl : k < l.length) : q < (ky l k : Rat) := by
  have h1 := aft_hi (l := l) (q := q) (by omega)
  have h2 := h.le hk hl
  exact ltle h1 h2
theorem So.lo {l : List DRow} (h : So l) {a b : Nat} {q : Rat} (hab : a ≤ b) (hb : b < l.length) (hq : (ky l b : Rat) ≤ q) : (ky l a : Rat) ≤ q := Rat.le_trans (h.le hab hb) hq
def wv (un : ByteArray) (l : List DRow) (i : Nat) : Rat := (vl l i : Rat) * uf un
def lkR (un : ByteArray) (l : List DRow) (q : Rat) : Rat := wv un l (aft l q - 1)
def lin (un : ByteArray) (l : List DRow) (q : Rat) : Option Rat :=
  if aft l q = 0 then none
  else if (ky l (aft l q - 1) : Rat) = q then some (wv un l (aft l q - 1))
  else if aft l q = l.length then none
  else some (wv un l (aft l q - 1) + (q - (ky l (aft l q - 1) : Rat)) / ((ky l (aft l q) - ky l (aft l q - 1) : Int) : Rat) * (((vl l (aft l q) - vl l (aft l q - 1) : Int) : Rat) * uf un))
theorem lin_no {un : ByteArray} {l : List DRow} {q : Rat} (h : aft l q = 0 ∨ (¬ (0 < aft l q ∧ (ky l (aft l q - 1) : Rat) = q) ∧ aft l q = l.length)) : lin un l q = none := by
  unfold lin
  rcases h with h | ⟨h1, h2⟩
  · rw [if_pos h]
  · by_cases h0 : aft l q = 0
    · rw [if_pos h0]
    · rw [if_neg h0, if_neg fun e => h1 ⟨by omega, e⟩, if_pos h2]
def sumR (a b : Int) : List DRow → Int
  | [] => 0
  | r :: l => (if a ≤ r.Key ∧ r.Key ≤ b then r.Value else 0) + sumR a b l
theorem sumR_app (a b : Int) : ∀ (l m : List DRow), sumR a b (l ++ m) = sumR a b l + sumR a b m
  | [], m => by simp [sumR]
  | r :: l, m => by
    rw [List.cons_append]
    show (if a ≤ r.Key ∧ r.Key ≤ b then r.Value else 0) + sumR a b (l ++ m) = ((if a ≤ r.Key ∧ r.Key ≤ b then r.Value else 0) + sumR a b l) + sumR a b m
    rw [sumR_app a b l m, Int.add_assoc]
theorem take_get {l : List DRow} {k : Nat} (h : k < l.length) : l.take (k + 1) = l.take k ++ [l.getD k default] := by
  rw [List.take_succ_eq_append_getElem h]
  congr 2
  rw [List.getD_eq_getElem?_getD, List.getElem?_eq_getElem h]; rfl
theorem sumR_step {a b : Int} {l : List DRow} {k : Nat} (h : k < l.length) : sumR a b (l.take (k + 1)) = sumR a b (l.take k) + (if a ≤ ky l k ∧ ky l k ≤ b then vl l k else 0) := by
  rw [take_get h, sumR_app]
  have e : sumR a b [l.getD k default] = (if a ≤ ky l k ∧ ky l k ≤ b then vl l k else 0) + 0 := rfl
  rw [e, Int.add_zero]
end Tb

open Go
structure DTable where
  Name : ByteArray := ByteArray.empty
  Unit : ByteArray := ByteArray.empty
  Rows : Fat DRow := {}
instance : Dat DTable where
  default := {}
  size := 3
  cells x := Dat.cells x.Name ++ Dat.cells x.Unit ++ Dat.cells x.Rows
  good H x := Dat.good H x.Rows
  len _ := rfl
  one H x h u hu := by
    simp only [List.mem_append] at hu
    rcases hu with (hu | hu) | hu
    · exact Dat.one H x.Name trivial u hu
    · exact Dat.one H x.Unit trivial u hu
    · exact Dat.one H x.Rows h u hu
  q x := Dat.q x.Rows
  hq H x h := Dat.hq H _ h
  mono _ _ _ k h := Dat.mono _ _ _ k h
  zero H := Dat.zero H

open Go Go.Proofs
set_option maxRecDepth 10000 in
theorem lltr_ct (c : Int) :
    Cp Try.prog 105 #[.int .u8 c] [] (bv (decide (Un.ltr c))) := by
  refine V.fn mo Try.func105 17 0 (by kernel_rfl) fun w H ε k0 => ?_
  clear k0
  refine V.g [.kb false] fun _ _ G1 => ?_
  intro S_ s_
  refine nm (((decide (97 ≤ c)) && (decide (c ≤ 122))) || ((decide (65 ≤ c)) && (decide (c ≤ 90))) : Bool) fun p1 hp1 => ?_
  refine V.g [.k (.int .u8 c),.k (bv (decide (97 ≤ c))),.k (bv (decide (97 ≤ c))),.k (.int .u8 c),.k (bv (decide (c ≤ 122))),.and g0 false (decide (97 ≤ c)) (decide (c ≤ 122)),.k (bv ((decide (97 ≤ c)) && (decide (c ≤ 122)))),.k (.int .u8 c),.k (bv (decide (65 ≤ c))),.k (bv (decide (65 ≤ c))),.k (.int .u8 c),.k (bv (decide (c ≤ 90))),.and (gF (b := (decide (97 ≤ c)) && (decide (c ≤ 122))) (iAF iDF iDF)) false (decide (65 ≤ c)) (decide (c ≤ 90)),.orn g0 false ((decide (97 ≤ c)) && (decide (c ≤ 122))) ((decide (65 ≤ c)) && (decide (c ≤ 90))) p1 hp1,.k (bv p1)] fun _ _ G2 => ?_
  intro S_ s_
  have e0 : p1 = decide (Un.ltr c) := by
    refine Bool.eq_iff_iff.2 (Iff.trans (iN hp1 (iOT (iAT iDT iDT) (iAT iDT iDT))) (Iff.trans ?_ decide_eq_true_iff.symm))
    exact Iff.rfl
  exact V.ret [0] [] [] [] [] [] (bv p1) (fun _ _ => by kernel_rfl) (fun _ _ => (Eq.trans (by kernel_rfl) (cong1 (fun (x0 : Bool) => (bv x0 : Value)) e0)).trans (by kernel_rfl)) (fun _ _ => trivial)
set_option maxRecDepth 10000 in
theorem ldgt_ct (c : Int) :
    Cp Try.prog 128 #[.int .u8 c] [] (bv (decide (Tb.dgt c))) := by
  refine V.fn mo Try.func128 9 0 (by kernel_rfl) fun w H ε k0 => ?_
  clear k0
  refine V.g [.kb false] fun _ _ G1 => ?_
  intro S_ s_
  refine V.g [.k (.int .u8 c),.k (bv (decide (48 ≤ c))),.k (bv (decide (48 ≤ c))),.k (.int .u8 c),.k (bv (decide (c ≤ 57))),.and g0 false (decide (48 ≤ c)) (decide (c ≤ 57)),.k (bv ((decide (48 ≤ c)) && (decide (c ≤ 57))))] fun _ _ G2 => ?_
  intro S_ s_
  have e0 : ((decide (48 ≤ c)) && (decide (c ≤ 57))) = decide (Tb.dgt c) := by
    refine Bool.eq_iff_iff.2 (Iff.trans (iAT iDT iDT) (Iff.trans ?_ decide_eq_true_iff.symm))
    exact Iff.rfl
  exact V.ret [0] [] [] [] [] [] (bv ((decide (48 ≤ c)) && (decide (c ≤ 57)))) (fun _ _ => by kernel_rfl) (fun _ _ => (Eq.trans (by kernel_rfl) (cong1 (fun (x0 : Bool) => (bv x0 : Value)) e0)).trans (by kernel_rfl)) (fun _ _ => trivial)
set_option maxRecDepth 10000 in
theorem linn_ct (c : Int) :
    Cp Try.prog 107 #[.int .u8 c] [] (bv (decide (Tb.inn c))) := by
  refine V.fn mo Try.func107 13 0 (by kernel_rfl) fun w H ε k0 => ?_
  clear k0
  refine V.g [.kb false] fun _ _ G1 => ?_
  intro S_ s_
  refine nm (((decide (Un.ltr c)) || (decide (Tb.dgt c))) || (decide (c = 95)) : Bool) fun p1 hp1 => ?_
  refine V.g [.k (.int .u8 c),.cp g0 1 105 [] (fun _ G => lltr_ct c),.k (bv (decide (Un.ltr c))),.k (.int .u8 c),.cp (gF (b := decide (Un.ltr c)) iDF) 4 128 [] (fun hg G => ldgt_ct c),.or g0 false (decide (Un.ltr c)) (decide (Tb.dgt c)),.k (bv ((decide (Un.ltr c)) || (decide (Tb.dgt c)))),.k (.int .u8 c),.k (bv (decide (c = 95))),.orn g0 false ((decide (Un.ltr c)) || (decide (Tb.dgt c))) (decide (c = 95)) p1 hp1,.k (bv p1)] fun _ _ G2 => ?_
  intro S_ s_
  have e0 : p1 = decide (Tb.inn c) := by
    refine Bool.eq_iff_iff.2 (Iff.trans (iN hp1 (iOT (iOT iDT iDT) iDT)) (Iff.trans ?_ decide_eq_true_iff.symm))
    exact Iff.rfl
  exact V.ret [0] [] [] [] [] [] (bv p1) (fun _ _ => by kernel_rfl) (fun _ _ => (Eq.trans (by kernel_rfl) (cong1 (fun (x0 : Bool) => (bv x0 : Value)) e0)).trans (by kernel_rfl)) (fun _ _ => trivial)
set_option maxRecDepth 10000 in
theorem lspan_ct (s : ByteArray) (hs : s.size ≤ 1000000) :
    Cp Try.prog 106 #[tv s, .func (.func 107) #[] #[]] [] (iv (Tb.spn s : Int)) := by
  refine V.fn mo Try.func106 20 0 (by kernel_rfl) fun w H ε k0 => ?_
  clear k0
  refine V.g [.k (iv 0)] fun _ _ G1 => ?_
  intro S_ s_
  refine V.g [.k (iv 0)] fun _ _ G2 => ?_
  intro S_ s_
  refine V.loop (γ := Int) (fun n => ⟨[(0, tv s), (1, .func (.func 107) #[] #[]), (5, iv n)], [], []⟩) (fun n => (0 ≤ n) ∧ (n ≤ (s.size : Int)) ∧ (∀ j, j < n.toNat → Tb.inn (((bl s).getD j default).toNat : Int))) (fun n => ((s.size : Int) - n).toNat) 0 (by kernel_rfl) [] (by kernel_rfl) ?_ ?_
  · refine ⟨?_, ?_, ?_⟩
    · show 0 ≤ (0 : Int)
      omega
    · show (0 : Int) ≤ (s.size : Int)
      omega
    show ∀ j, j < (0 : Int).toNat → Tb.inn (((bl s).getD j default).toNat : Int)
    intro j hj; simp at hj
  rintro n hF1 kw3 Z1 hZ1
  have hF1 : (0 ≤ n) ∧ (n ≤ (s.size : Int)) ∧ (∀ j, j < n.toNat → Tb.inn (((bl s).getD j default).toNat : Int)) := hF1
  obtain ⟨hf1, hf2, hf3⟩ := hF1
  clear kw3
  refine nm ((bl s).getD n.toNat default : UInt8) fun c1 hc1 => ?_
  refine nm ((decide (n < (s.size : Int))) && (decide (Tb.inn (c1.toNat : Int))) : Bool) fun p1 hp1 => ?_
  refine V.g [.k (iv n),.k (tv s),.k (iv (s.size : Int)),.k (bv (decide (n < (s.size : Int)))),.k (bv (decide (n < (s.size : Int)))),.k (.func (.func 107) #[] #[]),.k (tv s),.k (iv n),.sid (gT (b := decide (n < (s.size : Int))) iDT) s n c1 hc1 (fun hg => ⟨by omega, by omega⟩),.cp (gT (b := decide (n < (s.size : Int))) iDT) 9 107 [] (fun hg G => linn_ct (c1.toNat : Int)),.andn g0 false (decide (n < (s.size : Int))) (decide (Tb.inn (c1.toNat : Int))) p1 hp1] fun _ _ G3 => ?_
  intro S_ s_
  refine V.cond (b := p1) (iN hp1 (iAT iDT iDT)) (iN hp1 (iAF iDF iDF)) (by kernel_rfl) (fun q1 => ?_) (fun q2 => ?_)
  · refine V.g [.k (iv n),.a (n + 1) (by omega) (by omega),.k (iv (n + 1))] fun _ _ G4 => ?_
    intro S_ s_
    refine V.rnd hZ1 (n + 1) [] (by kernel_rfl) ?_ ?_
    · refine ⟨?_, ?_, ?_⟩
      · show 0 ≤ (n + 1)
        omega
      · show (n + 1) ≤ (s.size : Int)
        omega
      show ∀ j, j < (n + 1).toNat → Tb.inn (((bl s).getD j default).toNat : Int)
      intro j hj; by_cases e : j < n.toNat
      · exact hf3 j e
      rw [show j = n.toNat by omega, ← hc1]; exact (q1).2
    show ((s.size : Int) - (n + 1)).toNat < ((s.size : Int) - n).toNat
    omega
  refine V.g [.k (iv n),.k (iv n)] fun _ _ G5 => ?_
  intro S_ s_
  have e0 : n = (Tb.spn s : Int) := by rw [Tb.spn_at (s := s) (n := n.toNat) (by omega) hf3 (by have hqq := q2; rcases hqq with h | h; exact .inl (by omega); right; rw [hc1] at h; exact h)]; omega
  exact V.ret [0] [] [] [] [] [] (iv n) (fun _ _ => by kernel_rfl) (fun _ _ => (Eq.trans (by kernel_rfl) (cong1 (fun (x0 : Int) => (iv x0 : Value)) e0)).trans (by kernel_rfl)) (fun _ _ => trivial)
theorem lspan_ctv (s : ByteArray) (hs : s.size ≤ 1000000) (rv0 : Int) (erv0 : rv0 = (Tb.spn s : Int)) :
    Cp Try.prog 106 #[tv s, .func (.func 107) #[] #[]] [] (iv rv0) := by
  subst erv0; exact lspan_ct s hs
set_option maxRecDepth 10000 in
theorem lname_ct (s : ByteArray) (hs : s.size ≤ 1000000) :
    Cp Try.prog 69 #[tv s] [] (bv (decide (Tb.Nm s))) := by
  refine V.fn mo Try.func69 22 0 (by kernel_rfl) fun w H ε k0 => ?_
  clear k0
  refine V.g [.kb false] fun _ _ G1 => ?_
  intro S_ s_
  refine nm ((bl s).getD (0 : Int).toNat default : UInt8) fun c1 hc1 => ?_
  refine nm ((!(decide (s = ByteArray.empty))) && (decide (Un.ltr (c1.toNat : Int))) : Bool) fun p1 hp1 => ?_
  refine nm ((Tb.spn s : Int) : Int) fun n1 hn1 => ?_
  refine nm ((p1 && (decide ((s.size : Int) ≤ 20))) && (decide (n1 = (s.size : Int))) : Bool) fun p2 hp2 => ?_
  refine V.g [.k (tv s),.sne s ByteArray.empty,.k (bv (!(decide (s = ByteArray.empty)))),.k (tv s),.sid (gT (b := !(decide (s = ByteArray.empty))) (iNT iDF)) s (0 : Int) c1 hc1 (fun hg => ⟨by omega, by have := Dm.size_ne hg; omega⟩),.cp (gT (b := !(decide (s = ByteArray.empty))) (iNT iDF)) 5 105 [] (fun hg G => lltr_ct (c1.toNat : Int)),.andn g0 false (!(decide (s = ByteArray.empty))) (decide (Un.ltr (c1.toNat : Int))) p1 hp1,.k (bv p1),.k (tv s),.k (iv (s.size : Int)),.k (bv (decide ((s.size : Int) ≤ 20))),.and g0 false p1 (decide ((s.size : Int) ≤ 20)),.k (bv (p1 && (decide ((s.size : Int) ≤ 20)))),.k (tv s),.cp (gT (b := p1 && (decide ((s.size : Int) ≤ 20))) (iAT (iN hp1 (iAT (iNT iDF) iDT)) iDT)) 14 106 [] (fun hg G => lspan_ctv s (by omega) n1 hn1),.k (tv s),.k (iv (s.size : Int)),.k (bv (decide (n1 = (s.size : Int)))),.andn g0 false (p1 && (decide ((s.size : Int) ≤ 20))) (decide (n1 = (s.size : Int))) p2 hp2,.k (bv p2)] fun _ _ G2 => ?_
  intro S_ s_
  have e0 : p2 = decide (Tb.Nm s) := by
    refine Bool.eq_iff_iff.2 (Iff.trans (iN hp2 (iAT (iAT (iN hp1 (iAT (iNT iDF) iDT)) iDT) iDT)) (Iff.trans ?_ decide_eq_true_iff.symm))
    rw [hc1, hn1]; exact Iff.rfl
  exact V.ret [0] [] [] [] [] [] (bv p2) (fun _ _ => by kernel_rfl) (fun _ _ => (Eq.trans (by kernel_rfl) (cong1 (fun (x0 : Bool) => (bv x0 : Value)) e0)).trans (by kernel_rfl)) (fun _ _ => trivial)
set_option maxRecDepth 10000 in
theorem tin_ct (n : Int) :
    Cp Try.prog 70 #[iv n] [] (bv (decide (Tb.inR n))) := by
  refine V.fn mo Try.func70 9 0 (by kernel_rfl) fun w H ε k0 => ?_
  clear k0
  refine V.g [.kb false] fun _ _ G1 => ?_
  intro S_ s_
  refine nm ((decide ((-1099511627776) ≤ n)) && (decide (n ≤ 1099511627776)) : Bool) fun p1 hp1 => ?_
  refine V.g [.k (iv n),.k (bv (decide ((-1099511627776) ≤ n))),.k (bv (decide ((-1099511627776) ≤ n))),.k (iv n),.k (bv (decide (n ≤ 1099511627776))),.andn g0 false (decide ((-1099511627776) ≤ n)) (decide (n ≤ 1099511627776)) p1 hp1,.k (bv p1)] fun _ _ G2 => ?_
  intro S_ s_
  have e0 : p1 = decide (Tb.inR n) := by
    refine Bool.eq_iff_iff.2 (Iff.trans (iN hp1 (iAT iDT iDT)) (Iff.trans ?_ decide_eq_true_iff.symm))
    exact Iff.rfl
  exact V.ret [0] [] [] [] [] [] (bv p1) (fun _ _ => by kernel_rfl) (fun _ _ => (Eq.trans (by kernel_rfl) (cong1 (fun (x0 : Bool) => (bv x0 : Value)) e0)).trans (by kernel_rfl)) (fun _ _ => trivial)
set_option maxRecDepth 10000 in
theorem tworth_ct (t_Name t_Unit : ByteArray) (t_Rows : List DRow) (t_Rowss : SV) (n : Int) (hu : (Un.read t_Unit).2 = 0) (hs : t_Unit.size ≤ 1000000) (hn : -9223372036854775808 ≤ n ∧ n ≤ 9223372036854775807) :
    Ct Try.prog 67 #[ag (DTable.mk t_Name t_Unit ⟨t_Rows, t_Rowss⟩), iv n] [fs true t_Rows t_Rowss] [] (fun g => ag (DFrac.mk (DBig.mk (Fr.rS (True) ((n : Rat) * Tb.uf t_Unit)) ⟨Fr.rD (True) ((n : Rat) * Tb.uf t_Unit), (g.ss 0)⟩) (DBig.mk (Fr.rT (True)) ⟨Fr.rE (True) ((n : Rat) * Tb.uf t_Unit), (g.ss 1)⟩))) (fun g => [fs true (Fr.rD (True) ((n : Rat) * Tb.uf t_Unit)) (g.ss 0), fs true (Fr.rE (True) ((n : Rat) * Tb.uf t_Unit)) (g.ss 1)]) (fun g => []) (fun g => []) := by
  refine V.fn mo Try.func67 24 4 (by kernel_rfl) fun w H ε k0 => ?_
  obtain ⟨⟨kl1, -⟩, -⟩ : Lq t_Rows t_Rowss.v ∧ True := kn k0 (by kernel_rfl)
  clear k0
  refine V.g [.nb 0 0 (fun b => pp b 0) 55 (fun _ => ca (DTable.mk t_Name t_Unit ⟨t_Rows, t_Rowss⟩)),.nb 1 1 (fun b => pp b 0) 30 (fun _ => ca (DFrac.mk (DBig.mk 0 ⟨[], {}⟩) (DBig.mk 0 ⟨[], {}⟩)))] fun _ _ G1 => ?_
  intro S_ s_
  refine nm (Un.dv ((Un.read t_Unit).1) 0 : Int) fun n1 hn1 => ?_
  refine nm (Un.dv ((Un.read t_Unit).1) 1 : Int) fun n2 hn2 => ?_
  refine nm (Un.dv ((Un.read t_Unit).1) 2 : Int) fun n3 hn3 => ?_
  refine nm (Un.dv ((Un.read t_Unit).1) 3 : Int) fun n4 hn4 => ?_
  refine nm (Un.dv ((Un.read t_Unit).1) 4 : Int) fun n5 hn5 => ?_
  refine nm (Un.dv ((Un.read t_Unit).1) 5 : Int) fun n6 hn6 => ?_
  refine nm (Fr.rS (((Un.read t_Unit).1).isSome = true) (Un.fv ((Un.read t_Unit).1)) : Int) fun n7 hn7 => ?_
  refine nm (Fr.rD (((Un.read t_Unit).1).isSome = true) (Un.fv ((Un.read t_Unit).1)) : List Int) fun l1 hl1 => ?_
  have hl1n := congrArg List.length hl1
  refine nm (Fr.rT (((Un.read t_Unit).1).isSome = true) : Int) fun n8 hn8 => ?_
  refine nm (Fr.rE (((Un.read t_Unit).1).isSome = true) (Un.fv ((Un.read t_Unit).1)) : List Int) fun l2 hl2 => ?_
  have hl2n := congrArg List.length hl2
  refine nm ((Un.read t_Unit).2 : Int) fun n9 hn9 => ?_
  refine V.r [.k (pp ((G1 0).b) 1),.ld 0 1 false (fun _ => [tv t_Unit]),.ct g0 2 13 false [] [] [] (fun _ G => uread_ctv t_Unit (by omega) n1 hn1 n2 hn2 n3 hn3 n4 hn4 n5 hn5 n6 hn6 n7 hn7 l1 hl1 n8 hn8 l2 hl2 n9 hn9),.v fun G => .tuple #[.agg #[iv n1, iv n2, iv n3, iv n4, iv n5, iv n6, iv n7, ((G 2).ss 0).v, iv n8, ((G 2).ss 1).v], iv n9],.v fun G => .agg #[iv n1, iv n2, iv n3, iv n4, iv n5, iv n6, iv n7, ((G 2).ss 0).v, iv n8, ((G 2).ss 1).v],.k (iv n9),.nb 6 2 (fun b => pp b 0) 32 (fun _ => #[iv 0, iv 0, iv 0, iv 0, iv 0, iv 0, iv 0, .slice none 0 0, iv 0, .slice none 0 0]),.st 2 (fun G => .blk ((G 6).b) #[iv n1, iv n2, iv n3, iv n4, iv n5, iv n6, iv n7, ((G 2).ss 0).v, iv n8, ((G 2).ss 1).v] 32),.k (iv n9)] fun _ _ G2 kw2 => ?_
  intro S_ s_
  obtain ⟨⟨kl2, -⟩, ⟨kl3, -⟩, -⟩ : Lq l1 (((G2 2).ss 0).v) ∧ Lq l2 (((G2 2).ss 1).v) ∧ True := kn kw2 (by kernel_rfl)
  clear kw2
  have zU := Fr.Fz.of (Un.read_some hu) hn7 hl1 hn8 hl2
  have hUl := zU.len (Tb.uf_hb hu).1; have hUl1 := hUl.1; have hUl2 := hUl.2
  refine nm (Bg.sgn n : Int) fun n10 hn10 => ?_
  refine nm (Bg.dig n.natAbs : List Int) fun l3 hl3 => ?_
  have hl3n := congrArg List.length hl3
  refine nm (Bg.dig 1 : List Int) fun l4 hl4 => ?_
  have hl4n := congrArg List.length hl4
  refine nm (Fr.rS (Fr.FrB n10 l3 (1 : Int) l4 ∧ Fr.FrB n7 l1 n8 l2) ((Fr.fq n10 l3 l4) * (Fr.fq n7 l1 l2)) : Int) fun n11 hn11 => ?_
  refine nm (Fr.rD (Fr.FrB n10 l3 (1 : Int) l4 ∧ Fr.FrB n7 l1 n8 l2) ((Fr.fq n10 l3 l4) * (Fr.fq n7 l1 l2)) : List Int) fun l5 hl5 => ?_
  have hl5n := congrArg List.length hl5
  refine nm (Fr.rT (Fr.FrB n10 l3 (1 : Int) l4 ∧ Fr.FrB n7 l1 n8 l2) : Int) fun n12 hn12 => ?_
  refine nm (Fr.rE (Fr.FrB n10 l3 (1 : Int) l4 ∧ Fr.FrB n7 l1 n8 l2) ((Fr.fq n10 l3 l4) * (Fr.fq n7 l1 l2)) : List Int) fun l6 hl6 => ?_
  have hl6n := congrArg List.length hl6
  refine nm (if ¬ (Fr.FrB n10 l3 (1 : Int) l4 ∧ Fr.FrB n7 l1 n8 l2) then (1 : Int) else 0 : Int) fun n13 hn13 => ?_
  have zi : Fr.Fz n10 l3 1 l4 (n : Rat) := by subst_vars; exact Un.intz n
  have hil := zi.len (Fr.Hb.int hn); have hil1 := hil.1; have hil2 := hil.2
  have zf := Fr.Fz.of (And.intro zi.rt zU.rt) hn11 hl5 hn12 hl6
  rw [zi.v, zU.v] at zf
  refine V.r [.k (iv n),.ct g0 1 46 false [] [] [] (fun _ G => fint_ctv n (by omega) n10 hn10 l3 hl3 l4 hl4),.k (pp ((G2 6).b) 6),.ld 2 6 true (fun _ => Dat.cells (DFrac.mk (DBig.mk n7 ⟨l1, (G2 2).ss 0⟩) (DBig.mk n8 ⟨l2, (G2 2).ss 1⟩))),.ct g0 4 20 false [] [] [(kf true (.g 1 0) l3 (fun G => (G 1).ss 0)).a, (kf true (.g 1 1) l4 (fun G => (G 1).ss 1)).a, (kf true (.f 1) l1 (fun _ => (G2 2).ss 0)).a, (kf true (.f 2) l2 (fun _ => (G2 2).ss 1)).a] (fun _ G => fmul_ctv n10 l3 ((G 1).ss 0) (1 : Int) l4 ((G 1).ss 1) n7 l1 ((G2 2).ss 0) n8 l2 ((G2 2).ss 1) (by omega) (by omega) (by omega) (by omega) n11 hn11 l5 hl5 n12 hn12 l6 hl6 n13 hn13),.v fun G => .tuple #[ag (DFrac.mk (DBig.mk n11 ⟨l5, (G 4).ss 0⟩) (DBig.mk n12 ⟨l6, (G 4).ss 1⟩)), iv n13],.v fun G => ag (DFrac.mk (DBig.mk n11 ⟨l5, (G 4).ss 0⟩) (DBig.mk n12 ⟨l6, (G 4).ss 1⟩)),.k (iv n13),.nb 8 3 (fun b => pp b 0) 30 (fun _ => ca (DFrac.mk (DBig.mk 0 ⟨[], {}⟩) (DBig.mk 0 ⟨[], {}⟩))),.st 3 (fun G => .blk ((G 8).b) (ca (DFrac.mk (DBig.mk n11 ⟨l5, (G 4).ss 0⟩) (DBig.mk n12 ⟨l6, (G 4).ss 1⟩))) 30),.k (iv n13)] fun _ _ G3 kw3 => ?_
  intro S_ s_
  obtain ⟨⟨kl4, -⟩, ⟨kl5, -⟩, ⟨kl6, -⟩, ⟨kl7, -⟩, -⟩ : Lq l3 (((G3 1).ss 0).v) ∧ Lq l4 (((G3 1).ss 1).v) ∧ Lq l5 (((G3 4).ss 0).v) ∧ Lq l6 (((G3 4).ss 1).v) ∧ True := kn kw3 (by kernel_rfl)
  clear kw3
  refine V.g [.ld 3 0 true (fun _ => Dat.cells (DFrac.mk (DBig.mk n11 ⟨l5, (G3 4).ss 0⟩) (DBig.mk n12 ⟨l6, (G3 4).ss 1⟩))),.st 1 (fun _ => .blk ((G1 1).b) (ca (DFrac.mk (DBig.mk n11 ⟨l5, (G3 4).ss 0⟩) (DBig.mk n12 ⟨l6, (G3 4).ss 1⟩))) 30)] fun _ _ G4 => ?_
  intro S_ s_
  have e1 : l5 = Fr.rD (True) ((n : Rat) * Tb.uf t_Unit) := (Fr.Fz.ret zf True.intro (rfl)).2.1
  subst e1
  have e3 : l6 = Fr.rE (True) ((n : Rat) * Tb.uf t_Unit) := (Fr.Fz.ret zf True.intro (rfl)).2.2.2
  subst e3
  have e0 : n11 = Fr.rS (True) ((n : Rat) * Tb.uf t_Unit) := (Fr.Fz.ret zf True.intro (rfl)).1
  have e2 : n12 = Fr.rT (True) := (Fr.Fz.ret zf True.intro (rfl)).2.2.1
  exact V.ret [1] [(G3 4).ss 0, (G3 4).ss 1] [fun _ => {}, fun _ => {}] [] [5, 6] [] (ag (DFrac.mk (DBig.mk n11 ⟨(Fr.rD (True) ((n : Rat) * Tb.uf t_Unit)), (G3 4).ss 0⟩) (DBig.mk n12 ⟨(Fr.rE (True) ((n : Rat) * Tb.uf t_Unit)), (G3 4).ss 1⟩))) (fun _ _ => by kernel_rfl) (fun _ _ => (Eq.trans (by kernel_rfl) (cong2 (fun (x0 : Int) (x2 : Int) => (.agg #[iv x0, ((G3 4).ss 0).v, iv x2, ((G3 4).ss 1).v] : Value)) e0 e2)).trans (by kernel_rfl)) (fun _ _ => trivial)
theorem tworth_ctv (t_Name t_Unit : ByteArray) (t_Rows : List DRow) (t_Rowss : SV) (n : Int) (hu : (Un.read t_Unit).2 = 0) (hs : t_Unit.size ≤ 1000000) (hn : -9223372036854775808 ≤ n ∧ n ≤ 9223372036854775807) (rv0 : Int) (erv0 : rv0 = Fr.rS (True) ((n : Rat) * Tb.uf t_Unit)) (rv1 : List Int) (erv1 : rv1 = Fr.rD (True) ((n : Rat) * Tb.uf t_Unit)) (rv2 : Int) (erv2 : rv2 = Fr.rT (True)) (rv3 : List Int) (erv3 : rv3 = Fr.rE (True) ((n : Rat) * Tb.uf t_Unit)) :
    Ct Try.prog 67 #[ag (DTable.mk t_Name t_Unit ⟨t_Rows, t_Rowss⟩), iv n] [fs true t_Rows t_Rowss] [] (fun g => ag (DFrac.mk (DBig.mk rv0 ⟨rv1, (g.ss 0)⟩) (DBig.mk rv2 ⟨rv3, (g.ss 1)⟩))) (fun g => [fs true rv1 (g.ss 0), fs true rv3 (g.ss 1)]) (fun g => []) (fun g => []) := by
  subst erv0 erv1 erv2 erv3; exact tworth_ct t_Name t_Unit t_Rows t_Rowss n hu hs hn
set_option maxRecDepth 10000 in
theorem tcmp_ct (r_Key r_Value key_P_Sign : Int) (key_P_Digits : List Int) (key_P_Digitss : SV) (key_Q_Sign : Int) (key_Q_Digits : List Int) (key_Q_Digitss : SV) (hk : Fr.FrB key_P_Sign key_P_Digits key_Q_Sign key_Q_Digits) (hr : -9223372036854775808 ≤ r_Key ∧ r_Key ≤ 9223372036854775807) (hkeyP : key_P_Digits.length ≤ 17179869184) (hkeyQ : key_Q_Digits.length ≤ 17179869184) :
    Cp Try.prog 102 #[ag (DRow.mk r_Key r_Value), ag (DFrac.mk (DBig.mk key_P_Sign ⟨key_P_Digits, key_P_Digitss⟩) (DBig.mk key_Q_Sign ⟨key_Q_Digits, key_Q_Digitss⟩))] [fs true key_P_Digits key_P_Digitss, fs true key_Q_Digits key_Q_Digitss] (iv (if (r_Key : Rat) ≤ (Fr.fq key_P_Sign key_P_Digits key_Q_Digits) then (-1 : Int) else 1)) := by
  refine V.fn mo Try.func102 11 2 (by kernel_rfl) fun w H ε k0 => ?_
  obtain ⟨⟨kl1, -⟩, ⟨kl2, -⟩, -⟩ : Lq key_P_Digits key_P_Digitss.v ∧ Lq key_Q_Digits key_Q_Digitss.v ∧ True := kn k0 (by kernel_rfl)
  clear k0
  refine V.g [.nb 0 0 (fun b => pp b 0) 60 (fun _ => ca (DRow.mk r_Key r_Value)),.nb 1 1 (fun b => pp b 0) 30 (fun _ => ca (DFrac.mk (DBig.mk key_P_Sign ⟨key_P_Digits, key_P_Digitss⟩) (DBig.mk key_Q_Sign ⟨key_Q_Digits, key_Q_Digitss⟩))),.k (iv 0)] fun _ _ G1 => ?_
  intro S_ s_
  refine nm (Bg.sgn r_Key : Int) fun n1 hn1 => ?_
  refine nm (Bg.dig r_Key.natAbs : List Int) fun l1 hl1 => ?_
  have hl1n := congrArg List.length hl1
  refine nm (Bg.dig 1 : List Int) fun l2 hl2 => ?_
  have hl2n := congrArg List.length hl2
  refine nm (if Fr.FrB n1 l1 (1 : Int) l2 ∧ Fr.FrB key_P_Sign key_P_Digits key_Q_Sign key_Q_Digits then Fr.cmpQ (Fr.fq n1 l1 l2) (Fr.fq key_P_Sign key_P_Digits key_Q_Digits) else 0 : Int) fun n2 hn2 => ?_
  have zi : Fr.Fz n1 l1 1 l2 (r_Key : Rat) := by subst_vars; exact Un.intz r_Key
  have hil := zi.len (Fr.Hb.int hr); have hil1 := hil.1; have hil2 := hil.2
  have hcm : n2 = Fr.cmpQ (r_Key : Rat) (Fr.fq key_P_Sign key_P_Digits key_Q_Digits) := by rw [hn2, if_pos ⟨zi.rt, hk⟩, zi.v]
  have hc2 : n2 ≤ 0 ↔ (r_Key : Rat) ≤ (Fr.fq key_P_Sign key_P_Digits key_Q_Digits) := by rw [hcm]; exact Tb.cmp_le
  refine V.r [.k (pp ((G1 0).b) 0),.ld 0 0 false (fun _ => [iv r_Key]),.ct g0 2 46 false [] [] [] (fun _ G => fint_ctv r_Key (by omega) n1 hn1 l1 hl1 l2 hl2),.ld 1 0 true (fun _ => Dat.cells (DFrac.mk (DBig.mk key_P_Sign ⟨key_P_Digits, key_P_Digitss⟩) (DBig.mk key_Q_Sign ⟨key_Q_Digits, key_Q_Digitss⟩))),.cp g0 4 30 [(kf true (.g 2 0) l1 (fun G => (G 2).ss 0)).a, (kf true (.g 2 1) l2 (fun G => (G 2).ss 1)).a, (kf false (.f 0) key_P_Digits (fun _ => key_P_Digitss)).a, (kf false (.f 1) key_Q_Digits (fun _ => key_Q_Digitss)).a] (fun _ G => fcmp_ctv n1 l1 ((G 2).ss 0) (1 : Int) l2 ((G 2).ss 1) key_P_Sign key_P_Digits key_P_Digitss key_Q_Sign key_Q_Digits key_Q_Digitss (by omega) (by omega) (by omega) (by omega) n2 hn2),.k (bv (decide (n2 ≤ 0)))] fun _ _ G2 kw2 => ?_
  intro S_ s_
  obtain ⟨⟨kl3, -⟩, ⟨kl4, -⟩, -⟩ : Lq l1 (((G2 2).ss 0).v) ∧ Lq l2 (((G2 2).ss 1).v) ∧ True := kn kw2 (by kernel_rfl)
  clear kw2
  refine V.cond (b := decide (n2 ≤ 0)) iDT iDF (by kernel_rfl) (fun q1 => ?_) (fun q2 => ?_)
  · refine V.g [.k (iv (-1))] fun _ _ G3 => ?_
    intro S_ s_
    have e0 : (-1 : Int) = if (r_Key : Rat) ≤ (Fr.fq key_P_Sign key_P_Digits key_Q_Digits) then (-1 : Int) else 1 := (if_pos (hc2.1 q1)).symm
    exact V.ret [0] [] [] [] [] [] (iv (-1)) (fun _ _ => by kernel_rfl) (fun _ _ => (Eq.trans (by kernel_rfl) (cong1 (fun (x0 : Int) => (iv x0 : Value)) e0)).trans (by kernel_rfl)) (fun _ _ => trivial)
  refine V.g [.k (iv 1)] fun _ _ G4 => ?_
  intro S_ s_
  have e0 : (1 : Int) = if (r_Key : Rat) ≤ (Fr.fq key_P_Sign key_P_Digits key_Q_Digits) then (-1 : Int) else 1 := (if_neg (fun h => q2 (hc2.2 h))).symm
  exact V.ret [0] [] [] [] [] [] (iv 1) (fun _ _ => by kernel_rfl) (fun _ _ => (Eq.trans (by kernel_rfl) (cong1 (fun (x0 : Int) => (iv x0 : Value)) e0)).trans (by kernel_rfl)) (fun _ _ => trivial)
theorem tcmp_ctv (r_Key r_Value key_P_Sign : Int) (key_P_Digits : List Int) (key_P_Digitss : SV) (key_Q_Sign : Int) (key_Q_Digits : List Int) (key_Q_Digitss : SV) (hk : Fr.FrB key_P_Sign key_P_Digits key_Q_Sign key_Q_Digits) (hr : -9223372036854775808 ≤ r_Key ∧ r_Key ≤ 9223372036854775807) (hkeyP : key_P_Digits.length ≤ 17179869184) (hkeyQ : key_Q_Digits.length ≤ 17179869184) (rv0 : Int) (erv0 : rv0 = if (r_Key : Rat) ≤ (Fr.fq key_P_Sign key_P_Digits key_Q_Digits) then (-1 : Int) else 1) :
    Cp Try.prog 102 #[ag (DRow.mk r_Key r_Value), ag (DFrac.mk (DBig.mk key_P_Sign ⟨key_P_Digits, key_P_Digitss⟩) (DBig.mk key_Q_Sign ⟨key_Q_Digits, key_Q_Digitss⟩))] [fs true key_P_Digits key_P_Digitss, fs true key_Q_Digits key_Q_Digitss] (iv rv0) := by
  subst erv0; exact tcmp_ct r_Key r_Value key_P_Sign key_P_Digits key_P_Digitss key_Q_Sign key_Q_Digits key_Q_Digitss hk hr hkeyP hkeyQ
set_option maxRecDepth 10000 in
theorem tbs_ct (x : List DRow) (xs : SV) (target_P_Sign : Int) (target_P_Digits : List Int) (target_P_Digitss : SV) (target_Q_Sign : Int) (target_Q_Digits : List Int) (target_Q_Digitss : SV) (hso : Tb.So x) (hk : Fr.FrB target_P_Sign target_P_Digits target_Q_Sign target_Q_Digits) (htargetP : target_P_Digits.length ≤ 17179869184) (htargetQ : target_Q_Digits.length ≤ 17179869184) :
    Cp Try.prog 101 #[xs.v, ag (DFrac.mk (DBig.mk target_P_Sign ⟨target_P_Digits, target_P_Digitss⟩) (DBig.mk target_Q_Sign ⟨target_Q_Digits, target_Q_Digitss⟩)), .func (.func 102) #[] #[]] [fs true x xs, fs true target_P_Digits target_P_Digitss, fs true target_Q_Digits target_Q_Digitss] (.tuple #[iv (Tb.aft x (Fr.fq target_P_Sign target_P_Digits target_Q_Digits) : Int), bv false]) := by
  refine V.fn mo Try.func101 49 1 (by kernel_rfl) fun w H ε k0 => ?_
  obtain ⟨⟨kl1, -⟩, ⟨kl2, -⟩, ⟨kl3, -⟩, -⟩ : Lq x xs.v ∧ Lq target_P_Digits target_P_Digitss.v ∧ Lq target_Q_Digits target_Q_Digitss.v ∧ True := kn k0 (by kernel_rfl)
  clear k0
  have hxl := hso.2.1
  refine V.g [.nb 0 0 (fun b => pp b 0) 30 (fun _ => ca (DFrac.mk (DBig.mk target_P_Sign ⟨target_P_Digits, target_P_Digitss⟩) (DBig.mk target_Q_Sign ⟨target_Q_Digits, target_Q_Digitss⟩))),.k (iv 0),.kb false] fun _ _ G1 => ?_
  intro S_ s_
  refine V.g [.k (xs.v),.ln (kf false (.f 0) x (fun _ => xs)),.k (iv (x.length : Int))] fun _ _ G2 => ?_
  intro S_ s_
  refine V.g [.k (iv (x.length : Int)),.k (iv 0),.k (iv (x.length : Int))] fun _ _ G3 => ?_
  intro S_ s_
  refine V.loop (γ := Int × Int) (fun ⟨i, j⟩ => ⟨[(0, xs.v), (2, .func (.func 102) #[] #[]), (4, pp ((G1 0).b) 0), (8, iv (x.length : Int)), (9, iv i), (10, iv j)], [fs false x xs, fs false target_P_Digits target_P_Digitss, fs false target_Q_Digits target_Q_Digitss], [.blk ((G1 0).b) (ca (DFrac.mk (DBig.mk target_P_Sign ⟨target_P_Digits, target_P_Digitss⟩) (DBig.mk target_Q_Sign ⟨target_Q_Digits, target_Q_Digitss⟩))) 30]⟩) (fun ⟨i, j⟩ => (0 ≤ i) ∧ (i ≤ j) ∧ (j ≤ (x.length : Int)) ∧ (∀ k, k < i.toNat → (Tb.ky x k : Rat) ≤ (Fr.fq target_P_Sign target_P_Digits target_Q_Digits)) ∧ (∀ k, j.toNat ≤ k → k < x.length → (Fr.fq target_P_Sign target_P_Digits target_Q_Digits) < (Tb.ky x k : Rat))) (fun ⟨i, j⟩ => (j - i).toNat) (0, (x.length : Int)) (by kernel_rfl) [0, 1, 2] (by kernel_rfl) ?_ ?_
  · refine ⟨?_, ?_, ?_, ?_, ?_⟩
    · show 0 ≤ (0 : Int)
      omega
    · show (0 : Int) ≤ (x.length : Int)
      omega
    · show (x.length : Int) ≤ (x.length : Int)
      omega
    · show ∀ k, k < (0 : Int).toNat → (Tb.ky x k : Rat) ≤ (Fr.fq target_P_Sign target_P_Digits target_Q_Digits)
      intro k hk; simp at hk
    show ∀ k, (x.length : Int).toNat ≤ k → k < x.length → (Fr.fq target_P_Sign target_P_Digits target_Q_Digits) < (Tb.ky x k : Rat)
    intro k h1 h2; omega
  rintro ⟨i, j⟩ hF1 kw4 Z1 hZ1
  have hF1 : (0 ≤ i) ∧ (i ≤ j) ∧ (j ≤ (x.length : Int)) ∧ (∀ k, k < i.toNat → (Tb.ky x k : Rat) ≤ (Fr.fq target_P_Sign target_P_Digits target_Q_Digits)) ∧ (∀ k, j.toNat ≤ k → k < x.length → (Fr.fq target_P_Sign target_P_Digits target_Q_Digits) < (Tb.ky x k : Rat)) := hF1
  obtain ⟨hf1, hf2, hf3, hf4, hf5⟩ := hF1
  clear kw4
  refine V.g [.k (iv i),.k (iv j),.k (bv (decide (i < j)))] fun _ _ G4 => ?_
  intro S_ s_
  refine V.cond (b := decide (i < j)) iDT iDF (by kernel_rfl) (fun q1 => ?_) (fun q2 => ?_)
  · refine nm ((i + j) % 18446744073709551616 : Int) fun n1 hn1 => ?_
    refine nm (n1 / 2 : Int) fun n2 hn2 => ?_
    refine V.g [.k (iv i),.k (iv j),.a (i + j) (by omega) (by omega),.ek g0 .u64 (i + j) n1 (fun _ => by rw [wrapU64, hn1]),.shrm g0 .u64 .u64 n1 n2 1 (by decide) (by rw [hn2]; rfl),.ek g0 .i64 n2 n2 (fun _ => by rw [IntKind.wrap_i64]; omega),.k (iv n2)] fun _ _ G5 => ?_
    intro S_ s_
    refine nm (x.getD n2.toNat default : DRow) fun x1 hx1 => ?_
    refine nm (if (x1.Key : Rat) ≤ (Fr.fq target_P_Sign target_P_Digits target_Q_Digits) then (-1 : Int) else 1 : Int) fun n3 hn3 => ?_
    have hxk : Tb.ky x n2.toNat = x1.Key := by rw [hx1]; rfl
    have hxr := hso.2.2 n2.toNat (by omega)
    rw [hxk] at hxr
    have hxr1 := hxr.1; unfold Tb.inR at hxr1
    refine V.g [.k (.func (.func 102) #[] #[]),.k (xs.v),.k (iv n2),.ix g0 (kf false (.f 0) x (fun _ => xs)) n2 (fun _ => ⟨by omega, by omega⟩),.le g0 (kf false (.f 0) x (fun _ => xs)) n2 none false x1 hx1 (fun _ => ⟨by omega, by omega⟩) true (fun _ => Dat.cells x1),.ld 0 0 true (fun _ => Dat.cells (DFrac.mk (DBig.mk target_P_Sign ⟨target_P_Digits, target_P_Digitss⟩) (DBig.mk target_Q_Sign ⟨target_Q_Digits, target_Q_Digitss⟩))),.cp g0 6 102 [(kf false (.f 1) target_P_Digits (fun _ => target_P_Digitss)).a, (kf false (.f 2) target_Q_Digits (fun _ => target_Q_Digitss)).a] (fun _ G => tcmp_ctv x1.Key x1.Value target_P_Sign target_P_Digits target_P_Digitss target_Q_Sign target_Q_Digits target_Q_Digitss hk (by omega) (by omega) (by omega) n3 hn3),.k (bv (decide (n3 < 0)))] fun _ _ G6 => ?_
    intro S_ s_
    refine V.cond (b := decide (n3 < 0)) iDT iDF (by kernel_rfl) (fun q3 => ?_) (fun q4 => ?_)
    · have hle : (x1.Key : Rat) ≤ (Fr.fq target_P_Sign target_P_Digits target_Q_Digits) := by have hqq := q3; rw [hn3] at hqq; split at hqq; assumption; omega
      refine V.g [.k (iv n2),.a (n2 + 1) (by omega) (by omega),.k (iv (n2 + 1))] fun _ _ G7 => ?_
      intro S_ s_
      refine V.rnd hZ1 (n2 + 1, j) [0, 1, 2] (by kernel_rfl) ?_ ?_
      · refine ⟨?_, ?_, ?_, ?_, ?_⟩
        · show 0 ≤ (n2 + 1)
          first | omega | assumption
        · show (n2 + 1) ≤ j
          first | omega | assumption
        · show j ≤ (x.length : Int)
          first | omega | assumption
        · show ∀ k, k < (n2 + 1).toNat → (Tb.ky x k : Rat) ≤ (Fr.fq target_P_Sign target_P_Digits target_Q_Digits)
          intro k hk; exact hso.lo (b := n2.toNat) (by omega) (by omega) (by rw [hxk]; exact hle)
        show ∀ k, j.toNat ≤ k → k < x.length → (Fr.fq target_P_Sign target_P_Digits target_Q_Digits) < (Tb.ky x k : Rat)
        first | omega | assumption
      show (j - (n2 + 1)).toNat < (j - i).toNat
      rw [hn2, hn1]
      omega
    have hgt : (Fr.fq target_P_Sign target_P_Digits target_Q_Digits) < (x1.Key : Rat) := by have hqq := q4; rw [hn3] at hqq; split at hqq; omega; exact Rat.not_le.1 ‹_›
    refine V.g [.k (iv n2),.k (iv n2)] fun _ _ G8 => ?_
    intro S_ s_
    refine V.rnd hZ1 (i, n2) [0, 1, 2] (by kernel_rfl) ?_ ?_
    · refine ⟨?_, ?_, ?_, ?_, ?_⟩
      · show 0 ≤ i
        first | omega | assumption
      · show i ≤ n2
        first | omega | assumption
      · show n2 ≤ (x.length : Int)
        first | omega | assumption
      · show ∀ k, k < i.toNat → (Tb.ky x k : Rat) ≤ (Fr.fq target_P_Sign target_P_Digits target_Q_Digits)
        first | omega | assumption
      show ∀ k, n2.toNat ≤ k → k < x.length → (Fr.fq target_P_Sign target_P_Digits target_Q_Digits) < (Tb.ky x k : Rat)
      intro k hk hk2; have h1 := hso.le (a := n2.toNat) (b := k) (by omega) hk2; rw [hxk] at h1; exact Tb.ltle hgt h1
    show (n2 - i).toNat < (j - i).toNat
    rw [hn2, hn1]
    omega
  refine nm (x.getD i.toNat default : DRow) fun x2 hx2 => ?_
  refine nm (if (x2.Key : Rat) ≤ (Fr.fq target_P_Sign target_P_Digits target_Q_Digits) then (-1 : Int) else 1 : Int) fun n4 hn4 => ?_
  refine nm ((decide (i < (x.length : Int))) && (decide (n4 = 0)) : Bool) fun p1 hp1 => ?_
  have hyk : Tb.ky x i.toNat = x2.Key := by rw [hx2]; rfl
  have hyr : i < (x.length : Int) → Tb.inR x2.Key := fun h => by have := (hso.2.2 i.toNat (by omega)).1; rw [hyk] at this; exact this
  refine V.g [.k (iv i),.k (iv i),.k (iv (x.length : Int)),.k (bv (decide (i < (x.length : Int)))),.k (bv (decide (i < (x.length : Int)))),.k (.func (.func 102) #[] #[]),.k (xs.v),.k (iv i),.ix (gT (b := decide (i < (x.length : Int))) iDT) (kf false (.f 0) x (fun _ => xs)) i (fun hg => ⟨by omega, by omega⟩),.le (gT (b := decide (i < (x.length : Int))) iDT) (kf false (.f 0) x (fun _ => xs)) i none false x2 hx2 (fun hg => ⟨by omega, by omega⟩) true (fun _ => Dat.cells x2),.ld 0 0 true (fun _ => Dat.cells (DFrac.mk (DBig.mk target_P_Sign ⟨target_P_Digits, target_P_Digitss⟩) (DBig.mk target_Q_Sign ⟨target_Q_Digits, target_Q_Digitss⟩))),.cp (gT (b := decide (i < (x.length : Int))) iDT) 11 102 [(kf false (.f 1) target_P_Digits (fun _ => target_P_Digitss)).a, (kf false (.f 2) target_Q_Digits (fun _ => target_Q_Digitss)).a] (fun hg G => tcmp_ctv x2.Key x2.Value target_P_Sign target_P_Digits target_P_Digitss target_Q_Sign target_Q_Digits target_Q_Digitss hk (by have := hyr hg; unfold Tb.inR at this; omega) (by omega) (by omega) n4 hn4),.k (bv (decide (n4 = 0))),.andn g0 false (decide (i < (x.length : Int))) (decide (n4 = 0)) p1 hp1,.k (iv i),.k (bv p1)] fun _ _ G9 => ?_
  intro S_ s_
  have e0 : i = (Tb.aft x (Fr.fq target_P_Sign target_P_Digits target_Q_Digits) : Int) := by rw [Tb.aft_at (l := x) (i := i.toNat) (by omega) hf4 (by rcases Nat.lt_or_ge i.toNat x.length with h | h; exact .inr (hf5 _ (by omega) h); exact .inl (by omega))]; omega
  have e1 : p1 = false := by
    refine Bool.eq_false_iff.2 fun h => ?_
    have h2 := (iN hp1 (iAT iDT iDT)).1 h
    have h3 := h2.2
    rw [hn4] at h3; split at h3 <;> omega
  exact V.ret [0, 0] [] [] [] [] [] (.tuple #[iv i, bv p1]) (fun _ _ => by kernel_rfl) (fun _ _ => (Eq.trans (by kernel_rfl) (cong2 (fun (x0 : Int) (x1 : Bool) => (.tuple #[iv x0, bv x1] : Value)) e0 e1)).trans (by kernel_rfl)) (fun _ _ => trivial)
theorem tbs_ctv (x : List DRow) (xs : SV) (target_P_Sign : Int) (target_P_Digits : List Int) (target_P_Digitss : SV) (target_Q_Sign : Int) (target_Q_Digits : List Int) (target_Q_Digitss : SV) (hso : Tb.So x) (hk : Fr.FrB target_P_Sign target_P_Digits target_Q_Sign target_Q_Digits) (htargetP : target_P_Digits.length ≤ 17179869184) (htargetQ : target_Q_Digits.length ≤ 17179869184) (rv0 : Int) (erv0 : rv0 = (Tb.aft x (Fr.fq target_P_Sign target_P_Digits target_Q_Digits) : Int)) :
    Cp Try.prog 101 #[xs.v, ag (DFrac.mk (DBig.mk target_P_Sign ⟨target_P_Digits, target_P_Digitss⟩) (DBig.mk target_Q_Sign ⟨target_Q_Digits, target_Q_Digitss⟩)), .func (.func 102) #[] #[]] [fs true x xs, fs true target_P_Digits target_P_Digitss, fs true target_Q_Digits target_Q_Digitss] (.tuple #[iv rv0, bv false]) := by
  subst erv0; exact tbs_ct x xs target_P_Sign target_P_Digits target_P_Digitss target_Q_Sign target_Q_Digits target_Q_Digitss hso hk htargetP htargetQ

open Go Go.Proofs
set_option maxRecDepth 10000 in
theorem tafter_ct (t_Name t_Unit : ByteArray) (t_Rows : List DRow) (t_Rowss : SV) (key_P_Sign : Int) (key_P_Digits : List Int) (key_P_Digitss : SV) (key_Q_Sign : Int) (key_Q_Digits : List Int) (key_Q_Digitss : SV) (hso : Tb.So t_Rows) (hk : Fr.FrB key_P_Sign key_P_Digits key_Q_Sign key_Q_Digits) (hkeyP : key_P_Digits.length ≤ 17179869184) (hkeyQ : key_Q_Digits.length ≤ 17179869184) :
    Cp Try.prog 66 #[ag (DTable.mk t_Name t_Unit ⟨t_Rows, t_Rowss⟩), ag (DFrac.mk (DBig.mk key_P_Sign ⟨key_P_Digits, key_P_Digitss⟩) (DBig.mk key_Q_Sign ⟨key_Q_Digits, key_Q_Digitss⟩))] [fs true t_Rows t_Rowss, fs true key_P_Digits key_P_Digitss, fs true key_Q_Digits key_Q_Digitss] (.tuple #[iv (Tb.aft t_Rows (Fr.fq key_P_Sign key_P_Digits key_Q_Digits) : Int), bv (decide (0 < Tb.aft t_Rows (Fr.fq key_P_Sign key_P_Digits key_Q_Digits) ∧ (Tb.ky t_Rows (Tb.aft t_Rows (Fr.fq key_P_Sign key_P_Digits key_Q_Digits) - 1) : Rat) = (Fr.fq key_P_Sign key_P_Digits key_Q_Digits)))]) := by
  refine V.fn mo Try.func66 31 2 (by kernel_rfl) fun w H ε k0 => ?_
  obtain ⟨⟨kl1, -⟩, ⟨kl2, -⟩, ⟨kl3, -⟩, -⟩ : Lq t_Rows t_Rowss.v ∧ Lq key_P_Digits key_P_Digitss.v ∧ Lq key_Q_Digits key_Q_Digitss.v ∧ True := kn k0 (by kernel_rfl)
  clear k0
  have hxl := hso.2.1
  have hal := Tb.aft_le t_Rows (Fr.fq key_P_Sign key_P_Digits key_Q_Digits)
  refine V.g [.nb 0 0 (fun b => pp b 0) 55 (fun _ => ca (DTable.mk t_Name t_Unit ⟨t_Rows, t_Rowss⟩)),.nb 1 1 (fun b => pp b 0) 30 (fun _ => ca (DFrac.mk (DBig.mk key_P_Sign ⟨key_P_Digits, key_P_Digitss⟩) (DBig.mk key_Q_Sign ⟨key_Q_Digits, key_Q_Digitss⟩))),.k (iv 0),.kb false] fun _ _ G1 => ?_
  intro S_ s_
  refine nm ((Tb.aft t_Rows (Fr.fq key_P_Sign key_P_Digits key_Q_Digits) : Int) : Int) fun n1 hn1 => ?_
  refine V.g [.k (pp ((G1 0).b) 2),.ld 0 2 false (fun _ => [t_Rowss.v]),.ld 1 0 true (fun _ => Dat.cells (DFrac.mk (DBig.mk key_P_Sign ⟨key_P_Digits, key_P_Digitss⟩) (DBig.mk key_Q_Sign ⟨key_Q_Digits, key_Q_Digitss⟩))),.cp g0 3 101 [(kf false (.f 0) t_Rows (fun _ => t_Rowss)).a, (kf false (.f 1) key_P_Digits (fun _ => key_P_Digitss)).a, (kf false (.f 2) key_Q_Digits (fun _ => key_Q_Digitss)).a] (fun _ G => tbs_ctv t_Rows t_Rowss key_P_Sign key_P_Digits key_P_Digitss key_Q_Sign key_Q_Digits key_Q_Digitss (by assumption) (by assumption) (by omega) (by omega) n1 hn1),.k (.tuple #[iv n1, bv false]),.k (iv n1),.kb false,.k (iv n1),.kb false] fun _ _ G2 => ?_
  intro S_ s_
  refine nm (t_Rows.getD (n1 - 1).toNat default : DRow) fun x1 hx1 => ?_
  refine nm (Bg.sgn x1.Key : Int) fun n2 hn2 => ?_
  refine nm (Bg.dig x1.Key.natAbs : List Int) fun l1 hl1 => ?_
  have hl1n := congrArg List.length hl1
  refine nm (Bg.dig 1 : List Int) fun l2 hl2 => ?_
  have hl2n := congrArg List.length hl2
  refine nm (if Fr.FrB n2 l1 (1 : Int) l2 ∧ Fr.FrB key_P_Sign key_P_Digits key_Q_Sign key_Q_Digits then Fr.cmpQ (Fr.fq n2 l1 l2) (Fr.fq key_P_Sign key_P_Digits key_Q_Digits) else 0 : Int) fun n3 hn3 => ?_
  have hyk : 0 < n1 → Tb.ky t_Rows (Tb.aft t_Rows (Fr.fq key_P_Sign key_P_Digits key_Q_Digits) - 1) = x1.Key := fun h => by rw [hx1, show ((n1 - 1)).toNat = Tb.aft t_Rows (Fr.fq key_P_Sign key_P_Digits key_Q_Digits) - 1 by omega]; rfl
  have hyr : 0 < n1 → Tb.inR x1.Key := fun h => by have := (hso.2.2 (Tb.aft t_Rows (Fr.fq key_P_Sign key_P_Digits key_Q_Digits) - 1) (by omega)).1; rw [hyk h] at this; exact this
  have zi : Fr.Fz n2 l1 1 l2 (x1.Key : Rat) := by subst_vars; exact Un.intz _
  have hil : 0 < n1 → _ := fun h => zi.len (Fr.Hb.int (n := x1.Key) (by have := hyr h; unfold Tb.inR at this; omega))
  have hcm : n3 = Fr.cmpQ (x1.Key : Rat) (Fr.fq key_P_Sign key_P_Digits key_Q_Digits) := by rw [hn3, if_pos ⟨zi.rt, hk⟩, zi.v]
  refine V.g [.k (iv n1),.k (iv n1),.k (bv (decide (0 < n1))),.k (bv (decide (0 < n1))),.k (pp ((G1 0).b) 2),.ld 0 2 false (fun _ => [t_Rowss.v]),.k (iv n1),.arg (gT (b := decide (0 < n1)) iDT) (n1 - 1) (n1 - 1) rfl (fun hg => by omega),.ix (gT (b := decide (0 < n1)) iDT) (kf false (.f 0) t_Rows (fun _ => t_Rowss)) (n1 - 1) (fun hg => ⟨by omega, by omega⟩),.k (.pointer (some ((elemAddr t_Rowss.v ((n1 - 1).toNat * 2)).add 0))),.le (gT (b := decide (0 < n1)) iDT) (kf false (.f 0) t_Rows (fun _ => t_Rowss)) (n1 - 1) (some 0) false x1 hx1 (fun hg => ⟨by omega, by omega⟩) false (fun _ => [iv x1.Key]),.ct (gT (b := decide (0 < n1)) iDT) 11 46 false [] [] [] (fun hg G => fint_ctv x1.Key (by have := hyr (by omega); unfold Tb.inR at this; omega) n2 hn2 l1 hl1 l2 hl2),.ld 1 0 true (fun _ => Dat.cells (DFrac.mk (DBig.mk key_P_Sign ⟨key_P_Digits, key_P_Digitss⟩) (DBig.mk key_Q_Sign ⟨key_Q_Digits, key_Q_Digitss⟩))),.cp (gT (b := decide (0 < n1)) iDT) 13 30 [(kf true (.g 11 0) l1 (fun G => (G 11).ss 0)).a, (kf true (.g 11 1) l2 (fun G => (G 11).ss 1)).a, (kf false (.f 1) key_P_Digits (fun _ => key_P_Digitss)).a, (kf false (.f 2) key_Q_Digits (fun _ => key_Q_Digitss)).a] (fun hg G => fcmp_ctv n2 l1 ((G 11).ss 0) (1 : Int) l2 ((G 11).ss 1) key_P_Sign key_P_Digits key_P_Digitss key_Q_Sign key_Q_Digits key_Q_Digitss (by have := (hil (by omega)).1; omega) (by have := (hil (by omega)).2; omega) (by omega) (by omega) n3 hn3),.k (bv (decide (n3 = 0))),.and g0 false (decide (0 < n1)) (decide (n3 = 0)),.k (iv n1),.k (bv ((decide (0 < n1)) && (decide (n3 = 0))))] fun _ _ G3 => ?_
  intro S_ s_
  have e0 : n1 = (Tb.aft t_Rows (Fr.fq key_P_Sign key_P_Digits key_Q_Digits) : Int) := by rw [hn1]
  have e1 : ((decide (0 < n1)) && (decide (n3 = 0))) = decide (0 < Tb.aft t_Rows (Fr.fq key_P_Sign key_P_Digits key_Q_Digits) ∧ (Tb.ky t_Rows (Tb.aft t_Rows (Fr.fq key_P_Sign key_P_Digits key_Q_Digits) - 1) : Rat) = (Fr.fq key_P_Sign key_P_Digits key_Q_Digits)) := by
    refine Bool.eq_iff_iff.2 (Iff.trans (iAT iDT iDT) (Iff.trans ?_ decide_eq_true_iff.symm))
    rw [hcm]
    constructor
    · rintro ⟨h1, h2⟩
      exact ⟨by omega, by rw [hyk h1]; exact Tb.cmpQ_zero.1 h2⟩
    rintro ⟨h1, h2⟩
    have h3 : 0 < n1 := by omega
    exact ⟨h3, by rw [← hyk h3] ; exact Tb.cmpQ_zero.2 h2⟩
  exact V.ret [0, 0] [] [] [] [] [] (.tuple #[iv n1, bv ((decide (0 < n1)) && (decide (n3 = 0)))]) (fun _ _ => by kernel_rfl) (fun _ _ => (Eq.trans (by kernel_rfl) (cong2 (fun (x0 : Int) (x1 : Bool) => (.tuple #[iv x0, bv x1] : Value)) e0 e1)).trans (by kernel_rfl)) (fun _ _ => trivial)
theorem tafter_ctv (t_Name t_Unit : ByteArray) (t_Rows : List DRow) (t_Rowss : SV) (key_P_Sign : Int) (key_P_Digits : List Int) (key_P_Digitss : SV) (key_Q_Sign : Int) (key_Q_Digits : List Int) (key_Q_Digitss : SV) (hso : Tb.So t_Rows) (hk : Fr.FrB key_P_Sign key_P_Digits key_Q_Sign key_Q_Digits) (hkeyP : key_P_Digits.length ≤ 17179869184) (hkeyQ : key_Q_Digits.length ≤ 17179869184) (rv0 : Int) (erv0 : rv0 = (Tb.aft t_Rows (Fr.fq key_P_Sign key_P_Digits key_Q_Digits) : Int)) :
    Cp Try.prog 66 #[ag (DTable.mk t_Name t_Unit ⟨t_Rows, t_Rowss⟩), ag (DFrac.mk (DBig.mk key_P_Sign ⟨key_P_Digits, key_P_Digitss⟩) (DBig.mk key_Q_Sign ⟨key_Q_Digits, key_Q_Digitss⟩))] [fs true t_Rows t_Rowss, fs true key_P_Digits key_P_Digitss, fs true key_Q_Digits key_Q_Digitss] (.tuple #[iv rv0, bv (decide (0 < Tb.aft t_Rows (Fr.fq key_P_Sign key_P_Digits key_Q_Digits) ∧ (Tb.ky t_Rows (Tb.aft t_Rows (Fr.fq key_P_Sign key_P_Digits key_Q_Digits) - 1) : Rat) = (Fr.fq key_P_Sign key_P_Digits key_Q_Digits)))]) := by
  subst erv0; exact tafter_ct t_Name t_Unit t_Rows t_Rowss key_P_Sign key_P_Digits key_P_Digitss key_Q_Sign key_Q_Digits key_Q_Digitss hso hk hkeyP hkeyQ
set_option maxRecDepth 10000 in
theorem tright_ct (t_Name t_Unit : ByteArray) (t_Rows : List DRow) (t_Rowss : SV) (hs : t_Unit.size ≤ 1000000) (hs2 : t_Name.size ≤ 1000000) :
    Cp Try.prog 32 #[ag (DTable.mk t_Name t_Unit ⟨t_Rows, t_Rowss⟩)] [fs true t_Rows t_Rowss] (bv (decide (Tb.RtT t_Name t_Unit t_Rows))) := by
  refine V.fn mo Try.func32 62 3 (by kernel_rfl) fun w H ε k0 => ?_
  obtain ⟨⟨kl1, -⟩, -⟩ : Lq t_Rows t_Rowss.v ∧ True := kn k0 (by kernel_rfl)
  clear k0
  refine V.g [.nb 0 0 (fun b => pp b 0) 55 (fun _ => ca (DTable.mk t_Name t_Unit ⟨t_Rows, t_Rowss⟩)),.kb false] fun _ _ G1 => ?_
  intro S_ s_
  refine nm (Un.dv ((Un.read t_Unit).1) 0 : Int) fun n1 hn1 => ?_
  refine nm (Un.dv ((Un.read t_Unit).1) 1 : Int) fun n2 hn2 => ?_
  refine nm (Un.dv ((Un.read t_Unit).1) 2 : Int) fun n3 hn3 => ?_
  refine nm (Un.dv ((Un.read t_Unit).1) 3 : Int) fun n4 hn4 => ?_
  refine nm (Un.dv ((Un.read t_Unit).1) 4 : Int) fun n5 hn5 => ?_
  refine nm (Un.dv ((Un.read t_Unit).1) 5 : Int) fun n6 hn6 => ?_
  refine nm (Fr.rS (((Un.read t_Unit).1).isSome = true) (Un.fv ((Un.read t_Unit).1)) : Int) fun n7 hn7 => ?_
  refine nm (Fr.rD (((Un.read t_Unit).1).isSome = true) (Un.fv ((Un.read t_Unit).1)) : List Int) fun l1 hl1 => ?_
  have hl1n := congrArg List.length hl1
  refine nm (Fr.rT (((Un.read t_Unit).1).isSome = true) : Int) fun n8 hn8 => ?_
  refine nm (Fr.rE (((Un.read t_Unit).1).isSome = true) (Un.fv ((Un.read t_Unit).1)) : List Int) fun l2 hl2 => ?_
  have hl2n := congrArg List.length hl2
  refine nm ((Un.read t_Unit).2 : Int) fun n9 hn9 => ?_
  refine V.r [.k (pp ((G1 0).b) 1),.ld 0 1 false (fun _ => [tv t_Unit]),.ct g0 2 13 false [] [] [] (fun _ G => uread_ctv t_Unit (by omega) n1 hn1 n2 hn2 n3 hn3 n4 hn4 n5 hn5 n6 hn6 n7 hn7 l1 hl1 n8 hn8 l2 hl2 n9 hn9),.v fun G => .tuple #[.agg #[iv n1, iv n2, iv n3, iv n4, iv n5, iv n6, iv n7, ((G 2).ss 0).v, iv n8, ((G 2).ss 1).v], iv n9],.v fun G => .agg #[iv n1, iv n2, iv n3, iv n4, iv n5, iv n6, iv n7, ((G 2).ss 0).v, iv n8, ((G 2).ss 1).v],.k (iv n9),.nb 6 1 (fun b => pp b 0) 32 (fun _ => #[iv 0, iv 0, iv 0, iv 0, iv 0, iv 0, iv 0, .slice none 0 0, iv 0, .slice none 0 0]),.st 1 (fun G => .blk ((G 6).b) #[iv n1, iv n2, iv n3, iv n4, iv n5, iv n6, iv n7, ((G 2).ss 0).v, iv n8, ((G 2).ss 1).v] 32),.k (iv n9)] fun _ _ G2 kw2 => ?_
  intro S_ s_
  obtain ⟨⟨kl2, -⟩, ⟨kl3, -⟩, -⟩ : Lq l1 (((G2 2).ss 0).v) ∧ Lq l2 (((G2 2).ss 1).v) ∧ True := kn kw2 (by kernel_rfl)
  clear kw2
  refine nm ((!(decide (n9 = 0))) || (!(decide (Tb.Nm t_Name))) : Bool) fun p1 hp1 => ?_
  refine V.g [.k (iv n9),.k (bv (!(decide (n9 = 0)))),.k (bv (!(decide (n9 = 0)))),.k (pp ((G1 0).b) 0),.ld 0 0 false (fun _ => [tv t_Name]),.cp (gF (b := !(decide (n9 = 0))) (iNF iDT)) 5 69 [] (fun hg G => lname_ct t_Name (by omega)),.k (bv (!(decide (Tb.Nm t_Name)))),.orn g0 false (!(decide (n9 = 0))) (!(decide (Tb.Nm t_Name))) p1 hp1,.k (bv p1),.k (pp ((G1 0).b) 2),.ld 0 2 false (fun _ => [t_Rowss.v]),.ln (kf false (.f 0) t_Rows (fun _ => t_Rowss)),.k (bv (decide (100 < (t_Rows.length : Int)))),.or g0 false p1 (decide (100 < (t_Rows.length : Int)))] fun _ _ G3 => ?_
  intro S_ s_
  refine V.cond (b := p1 || (decide (100 < (t_Rows.length : Int)))) (iOT (iN hp1 (iOT (iNT iDF) (iNT iDF))) iDT) (iOF (iN hp1 (iOF (iNF iDT) (iNF iDT))) iDF) (by kernel_rfl) (fun q1 => ?_) (fun q2 => ?_)
  · refine V.g [.kb false] fun _ _ G4 => ?_
    intro S_ s_
    have e0 : false = decide (Tb.RtT t_Name t_Unit t_Rows) := by exact (decide_eq_false fun h => by have hqq := q1; rw [hn9] at hqq; rcases hqq with (h1 | h1) | h1; exact h1 h.1.1.1; exact h1 h.1.1.2; have := h.1.2; omega).symm
    exact V.ret [0] [] [] [] [] [] (bv false) (fun _ _ => by kernel_rfl) (fun _ _ => (Eq.trans (by kernel_rfl) (cong1 (fun (x0 : Bool) => (bv x0 : Value)) e0)).trans (by kernel_rfl)) (fun _ _ => trivial)
  have hH : ((Un.read t_Unit).2 = 0 ∧ Tb.Nm t_Name) ∧ (t_Rows.length : Int) ≤ 100 := by have hqq := q2; rw [hn9] at hqq; exact ⟨hqq.1, by have := hqq.2; omega⟩
  refine V.g [.k (pp ((G1 0).b) 2),.ld 0 2 false (fun _ => [t_Rowss.v]),.ln (kf false (.f 0) t_Rows (fun _ => t_Rowss)),.k (iv 0)] fun _ _ G5 => ?_
  intro S_ s_
  refine V.loop (γ := Int) (fun k0 => ⟨[(1, pp ((G1 0).b) 0), (28, t_Rowss.v), (29, iv (t_Rows.length : Int)), (30, iv k0)], [fs false t_Rows t_Rowss, fs true l1 ((G2 2).ss 0), fs true l2 ((G2 2).ss 1)], [.blk ((G1 0).b) (ca (DTable.mk t_Name t_Unit ⟨t_Rows, t_Rowss⟩)) 55, .blk ((G2 6).b) #[iv n1, iv n2, iv n3, iv n4, iv n5, iv n6, iv n7, ((G2 2).ss 0).v, iv n8, ((G2 2).ss 1).v] 32, .no]⟩) (fun k0 => (0 ≤ k0) ∧ (k0 ≤ (t_Rows.length : Int)) ∧ (∀ j, j < k0.toNat → Tb.RowOk t_Rows j)) (fun k0 => ((t_Rows.length : Int) - k0).toNat) 0 (by kernel_rfl) [0, 1, 2] (by kernel_rfl) ?_ ?_
  · refine ⟨?_, ?_, ?_⟩
    · show 0 ≤ (0 : Int)
      first | omega | rfl | (simp; done) | (subst_vars; simp; done)
    · show (0 : Int) ≤ (t_Rows.length : Int)
      first | omega | rfl | (simp; done) | (subst_vars; simp; done)
    show ∀ j, j < (0 : Int).toNat → Tb.RowOk t_Rows j
    intro j hj; simp at hj
  rintro k0 hF1 kw6 Z1 hZ1
  have hF1 : (0 ≤ k0) ∧ (k0 ≤ (t_Rows.length : Int)) ∧ (∀ j, j < k0.toNat → Tb.RowOk t_Rows j) := hF1
  obtain ⟨hf1, hf2, hf3⟩ := hF1
  clear kw6
  refine V.g [.k (bv (decide (k0 < (t_Rows.length : Int))))] fun _ _ G6 => ?_
  intro S_ s_
  refine V.cond (b := decide (k0 < (t_Rows.length : Int))) iDT iDF (by kernel_rfl) (fun q3 => ?_) (fun q4 => ?_)
  · refine nm (t_Rows.getD k0.toNat default : DRow) fun x1 hx1 => ?_
    refine V.g [.k (iv k0),.ix g0 (kf false (.f 0) t_Rows (fun _ => t_Rowss)) k0 (fun _ => ⟨by omega, by omega⟩),.le g0 (kf false (.f 0) t_Rows (fun _ => t_Rowss)) k0 none false x1 hx1 (fun _ => ⟨by omega, by omega⟩) true (fun _ => Dat.cells x1),.nb 3 2 (fun b => pp b 0) 60 (fun _ => ca (DRow.mk 0 0)),.k (iv k0),.st 2 (fun G => .blk ((G 3).b) (ca x1) 60)] fun _ _ G7 => ?_
    intro S_ s_
    refine nm ((!(decide (Tb.inR x1.Key))) || (!(decide (Tb.inR x1.Value))) : Bool) fun p2 hp2 => ?_
    refine nm (t_Rows.getD (k0 - 1).toNat default : DRow) fun x2 hx2 => ?_
    refine nm ((decide (0 < k0)) && (decide (x1.Key ≤ x2.Key)) : Bool) fun p3 hp3 => ?_
    have hkx : Tb.ky t_Rows k0.toNat = x1.Key := by rw [hx1]; rfl
    have hvx : Tb.vl t_Rows k0.toNat = x1.Value := by rw [hx1]; rfl
    have hky : 0 < k0 → Tb.ky t_Rows (k0.toNat - 1) = x2.Key := fun h => by rw [hx2, show ((k0 - 1)).toNat = k0.toNat - 1 by omega]; rfl
    refine V.g [.k (pp ((G7 3).b) 0),.ld 2 0 false (fun _ => [iv x1.Key]),.cp g0 2 70 [] (fun _ G => tin_ct x1.Key),.k (bv (!(decide (Tb.inR x1.Key)))),.k (bv (!(decide (Tb.inR x1.Key)))),.k (pp ((G7 3).b) 1),.ld 2 1 false (fun _ => [iv x1.Value]),.cp (gF (b := !(decide (Tb.inR x1.Key))) (iNF iDT)) 7 70 [] (fun hg G => tin_ct x1.Value),.k (bv (!(decide (Tb.inR x1.Value)))),.orn g0 false (!(decide (Tb.inR x1.Key))) (!(decide (Tb.inR x1.Value))) p2 hp2,.k (bv p2),.k (iv k0),.k (bv (decide (0 < k0))),.k (bv (decide (0 < k0))),.k (pp ((G7 3).b) 0),.ld 2 0 false (fun _ => [iv x1.Key]),.k (pp ((G1 0).b) 2),.ld 0 2 false (fun _ => [t_Rowss.v]),.k (iv k0),.arg ((gF (b := p2) (iN hp2 (iOF (iNF iDT) (iNF iDT)))).T (b := decide (0 < k0)) iDT) (k0 - 1) (k0 - 1) rfl (fun hg => by omega),.ix ((gF (b := p2) (iN hp2 (iOF (iNF iDT) (iNF iDT)))).T (b := decide (0 < k0)) iDT) (kf false (.f 0) t_Rows (fun _ => t_Rowss)) (k0 - 1) (fun hg => ⟨by omega, by omega⟩),.k (.pointer (some ((elemAddr t_Rowss.v ((k0 - 1).toNat * 2)).add 0))),.le ((gF (b := p2) (iN hp2 (iOF (iNF iDT) (iNF iDT)))).T (b := decide (0 < k0)) iDT) (kf false (.f 0) t_Rows (fun _ => t_Rowss)) (k0 - 1) (some 0) false x2 hx2 (fun hg => ⟨by omega, by omega⟩) false (fun _ => [iv x2.Key]),.k (bv (decide (x1.Key ≤ x2.Key))),.andn (gF (b := p2) (iN hp2 (iOF (iNF iDT) (iNF iDT)))) false (decide (0 < k0)) (decide (x1.Key ≤ x2.Key)) p3 hp3,.or g0 false p2 p3] fun _ _ G8 => ?_
    intro S_ s_
    refine V.cond (b := p2 || p3) (iOT (iN hp2 (iOT (iNT iDF) (iNT iDF))) (iN hp3 (iAT iDT iDT))) (iOF (iN hp2 (iOF (iNF iDT) (iNF iDT))) (iN hp3 (iAF iDF iDF))) (by kernel_rfl) (fun q5 => ?_) (fun q6 => ?_)
    · refine V.g [.kb false] fun _ _ G9 => ?_
      intro S_ s_
      have e0 : false = decide (Tb.RtT t_Name t_Unit t_Rows) := by
        refine (decide_eq_false fun h => ?_).symm
        have h1 := h.2 k0.toNat (by omega)
        unfold Tb.RowOk at h1; rw [hkx, hvx] at h1
        have hqq := q5
        rcases hqq with (h2 | h2) | ⟨h2, h3⟩
        · exact h2 h1.1.1
        · exact h2 h1.1.2
        have h4 := h1.2 (by omega); rw [hky h2] at h4; omega
      exact V.ret [0] [] [] [] [] [] (bv false) (fun _ _ => by kernel_rfl) (fun _ _ => (Eq.trans (by kernel_rfl) (cong1 (fun (x0 : Bool) => (bv x0 : Value)) e0)).trans (by kernel_rfl)) (fun _ _ => trivial)
    refine V.g [.a (k0 + 1) (by omega) (by omega),.k (iv (k0 + 1))] fun _ _ G10 => ?_
    intro S_ s_
    refine V.rnd hZ1 (k0 + 1) [0, 1, 2] (by kernel_rfl) ?_ ?_
    · refine ⟨?_, ?_, ?_⟩
      · show 0 ≤ (k0 + 1)
        omega
      · show (k0 + 1) ≤ (t_Rows.length : Int)
        omega
      show ∀ j, j < (k0 + 1).toNat → Tb.RowOk t_Rows j
      intro j hj; by_cases e : j < k0.toNat
      · exact hf3 j e
      rw [show j = k0.toNat by omega]
      have hqq := q6
      unfold Tb.RowOk; rw [hkx, hvx]
      refine ⟨hqq.1, fun h => ?_⟩
      have h0 : 0 < k0 := by omega
      rw [hky h0]; rcases hqq.2 with h1 | h1 <;> omega
    show ((t_Rows.length : Int) - (k0 + 1)).toNat < ((t_Rows.length : Int) - k0).toNat
    omega
  refine V.g [.kb true] fun _ _ G11 => ?_
  intro S_ s_
  have e0 : true = decide (Tb.RtT t_Name t_Unit t_Rows) := (decide_eq_true ⟨hH, fun i hi => hf3 i (by omega)⟩).symm
  exact V.ret [0] [] [] [] [] [] (bv true) (fun _ _ => by kernel_rfl) (fun _ _ => (Eq.trans (by kernel_rfl) (cong1 (fun (x0 : Bool) => (bv x0 : Value)) e0)).trans (by kernel_rfl)) (fun _ _ => trivial)
set_option maxRecDepth 10000 in
theorem tlook_ct (t_Name t_Unit : ByteArray) (t_Rows : List DRow) (t_Rowss : SV) (key_P_Sign : Int) (key_P_Digits : List Int) (key_P_Digitss : SV) (key_Q_Sign : Int) (key_Q_Digits : List Int) (key_Q_Digitss : SV) (hs : t_Unit.size ≤ 1000000) (hs2 : t_Name.size ≤ 1000000) (hkeyP : key_P_Digits.length ≤ 17179869184) (hkeyQ : key_Q_Digits.length ≤ 17179869184) :
    Ct Try.prog 29 #[ag (DTable.mk t_Name t_Unit ⟨t_Rows, t_Rowss⟩), ag (DFrac.mk (DBig.mk key_P_Sign ⟨key_P_Digits, key_P_Digitss⟩) (DBig.mk key_Q_Sign ⟨key_Q_Digits, key_Q_Digitss⟩))] [fs true t_Rows t_Rowss, fs true key_P_Digits key_P_Digitss, fs true key_Q_Digits key_Q_Digitss] [] (fun g => .tuple #[ag (DFrac.mk (DBig.mk (Fr.rS ((Tb.RtT t_Name t_Unit t_Rows ∧ Fr.FrB key_P_Sign key_P_Digits key_Q_Sign key_Q_Digits) ∧ 0 < Tb.aft t_Rows (Fr.fq key_P_Sign key_P_Digits key_Q_Digits)) (Tb.lkR t_Unit t_Rows (Fr.fq key_P_Sign key_P_Digits key_Q_Digits))) ⟨Fr.rD ((Tb.RtT t_Name t_Unit t_Rows ∧ Fr.FrB key_P_Sign key_P_Digits key_Q_Sign key_Q_Digits) ∧ 0 < Tb.aft t_Rows (Fr.fq key_P_Sign key_P_Digits key_Q_Digits)) (Tb.lkR t_Unit t_Rows (Fr.fq key_P_Sign key_P_Digits key_Q_Digits)), (g.ss 0)⟩) (DBig.mk (Fr.rT ((Tb.RtT t_Name t_Unit t_Rows ∧ Fr.FrB key_P_Sign key_P_Digits key_Q_Sign key_Q_Digits) ∧ 0 < Tb.aft t_Rows (Fr.fq key_P_Sign key_P_Digits key_Q_Digits))) ⟨Fr.rE ((Tb.RtT t_Name t_Unit t_Rows ∧ Fr.FrB key_P_Sign key_P_Digits key_Q_Sign key_Q_Digits) ∧ 0 < Tb.aft t_Rows (Fr.fq key_P_Sign key_P_Digits key_Q_Digits)) (Tb.lkR t_Unit t_Rows (Fr.fq key_P_Sign key_P_Digits key_Q_Digits)), (g.ss 1)⟩)), iv (if ¬ (Tb.RtT t_Name t_Unit t_Rows ∧ Fr.FrB key_P_Sign key_P_Digits key_Q_Sign key_Q_Digits) then (1 : Int) else if Tb.aft t_Rows (Fr.fq key_P_Sign key_P_Digits key_Q_Digits) = 0 then 4 else 0)]) (fun g => [fs true (Fr.rD ((Tb.RtT t_Name t_Unit t_Rows ∧ Fr.FrB key_P_Sign key_P_Digits key_Q_Sign key_Q_Digits) ∧ 0 < Tb.aft t_Rows (Fr.fq key_P_Sign key_P_Digits key_Q_Digits)) (Tb.lkR t_Unit t_Rows (Fr.fq key_P_Sign key_P_Digits key_Q_Digits))) (g.ss 0), fs true (Fr.rE ((Tb.RtT t_Name t_Unit t_Rows ∧ Fr.FrB key_P_Sign key_P_Digits key_Q_Sign key_Q_Digits) ∧ 0 < Tb.aft t_Rows (Fr.fq key_P_Sign key_P_Digits key_Q_Digits)) (Tb.lkR t_Unit t_Rows (Fr.fq key_P_Sign key_P_Digits key_Q_Digits))) (g.ss 1)]) (fun g => []) (fun g => []) := by
  refine V.fn mo Try.func29 35 3 (by kernel_rfl) fun w H ε k0 => ?_
  obtain ⟨⟨kl1, -⟩, ⟨kl2, -⟩, ⟨kl3, -⟩, -⟩ : Lq t_Rows t_Rowss.v ∧ Lq key_P_Digits key_P_Digitss.v ∧ Lq key_Q_Digits key_Q_Digitss.v ∧ True := kn k0 (by kernel_rfl)
  clear k0
  refine V.g [.nb 0 0 (fun b => pp b 0) 55 (fun _ => ca (DTable.mk t_Name t_Unit ⟨t_Rows, t_Rowss⟩)),.nb 1 1 (fun b => pp b 0) 30 (fun _ => ca (DFrac.mk (DBig.mk key_P_Sign ⟨key_P_Digits, key_P_Digitss⟩) (DBig.mk key_Q_Sign ⟨key_Q_Digits, key_Q_Digitss⟩))),.nb 2 2 (fun b => pp b 0) 30 (fun _ => ca (DFrac.mk (DBig.mk 0 ⟨[], {}⟩) (DBig.mk 0 ⟨[], {}⟩))),.k (iv 0)] fun _ _ G1 => ?_
  intro S_ s_
  refine nm ((!(decide (Tb.RtT t_Name t_Unit t_Rows))) || (!(decide (Fr.FrB key_P_Sign key_P_Digits key_Q_Sign key_Q_Digits))) : Bool) fun p1 hp1 => ?_
  refine V.g [.ld 0 0 true (fun _ => Dat.cells (DTable.mk t_Name t_Unit ⟨t_Rows, t_Rowss⟩)),.cp g0 1 32 [(kf false (.f 0) t_Rows (fun _ => t_Rowss)).a] (fun _ G => tright_ct t_Name t_Unit t_Rows t_Rowss (by omega) (by omega)),.k (bv (!(decide (Tb.RtT t_Name t_Unit t_Rows)))),.k (bv (!(decide (Tb.RtT t_Name t_Unit t_Rows)))),.ld 1 0 true (fun _ => Dat.cells (DFrac.mk (DBig.mk key_P_Sign ⟨key_P_Digits, key_P_Digitss⟩) (DBig.mk key_Q_Sign ⟨key_Q_Digits, key_Q_Digitss⟩))),.cp (gF (b := !(decide (Tb.RtT t_Name t_Unit t_Rows))) (iNF iDT)) 5 24 [(kf false (.f 1) key_P_Digits (fun _ => key_P_Digitss)).a, (kf false (.f 2) key_Q_Digits (fun _ => key_Q_Digitss)).a] (fun hg G => right_ct key_P_Sign key_P_Digits key_P_Digitss key_Q_Sign key_Q_Digits key_Q_Digitss (by omega) (by omega)),.k (bv (!(decide (Fr.FrB key_P_Sign key_P_Digits key_Q_Sign key_Q_Digits)))),.orn g0 false (!(decide (Tb.RtT t_Name t_Unit t_Rows))) (!(decide (Fr.FrB key_P_Sign key_P_Digits key_Q_Sign key_Q_Digits))) p1 hp1] fun _ _ G2 => ?_
  intro S_ s_
  refine V.cond (b := p1) (iN hp1 (iOT (iNT iDF) (iNT iDF))) (iN hp1 (iOF (iNF iDT) (iNF iDT))) (by kernel_rfl) (fun q1 => ?_) (fun q2 => ?_)
  · have hN : ¬ (Tb.RtT t_Name t_Unit t_Rows ∧ Fr.FrB key_P_Sign key_P_Digits key_Q_Sign key_Q_Digits) := by rintro ⟨h1, h2⟩; rcases q1 with h | h; exact h h1; exact h h2
    refine V.g [.k (ag (DFrac.mk (DBig.mk 0 ⟨[], {}⟩) (DBig.mk 0 ⟨[], {}⟩))),.st 2 (fun _ => .blk ((G1 2).b) (ca (DFrac.mk (DBig.mk 0 ⟨[], {}⟩) (DBig.mk 0 ⟨[], {}⟩))) 30),.k (iv 1)] fun _ _ G3 => ?_
    intro S_ s_
    refine V.nilF (α := Int) ?_
    refine V.nilF (α := Int) ?_
    have e1 : ([] : List Int) = Fr.rD ((Tb.RtT t_Name t_Unit t_Rows ∧ Fr.FrB key_P_Sign key_P_Digits key_Q_Sign key_Q_Digits) ∧ 0 < Tb.aft t_Rows (Fr.fq key_P_Sign key_P_Digits key_Q_Digits)) (Tb.lkR t_Unit t_Rows (Fr.fq key_P_Sign key_P_Digits key_Q_Digits)) := (Fr.Fz.no (fun h => hN h.1) (Tb.lkR t_Unit t_Rows (Fr.fq key_P_Sign key_P_Digits key_Q_Digits))).2.1
    rw [← e1]
    have e3 : ([] : List Int) = Fr.rE ((Tb.RtT t_Name t_Unit t_Rows ∧ Fr.FrB key_P_Sign key_P_Digits key_Q_Sign key_Q_Digits) ∧ 0 < Tb.aft t_Rows (Fr.fq key_P_Sign key_P_Digits key_Q_Digits)) (Tb.lkR t_Unit t_Rows (Fr.fq key_P_Sign key_P_Digits key_Q_Digits)) := (Fr.Fz.no (fun h => hN h.1) (Tb.lkR t_Unit t_Rows (Fr.fq key_P_Sign key_P_Digits key_Q_Digits))).2.2.2
    rw [← e3]
    have e0 : (0 : Int) = Fr.rS ((Tb.RtT t_Name t_Unit t_Rows ∧ Fr.FrB key_P_Sign key_P_Digits key_Q_Sign key_Q_Digits) ∧ 0 < Tb.aft t_Rows (Fr.fq key_P_Sign key_P_Digits key_Q_Digits)) (Tb.lkR t_Unit t_Rows (Fr.fq key_P_Sign key_P_Digits key_Q_Digits)) := (Fr.Fz.no (fun h => hN h.1) (Tb.lkR t_Unit t_Rows (Fr.fq key_P_Sign key_P_Digits key_Q_Digits))).1
    have e2 : (0 : Int) = Fr.rT ((Tb.RtT t_Name t_Unit t_Rows ∧ Fr.FrB key_P_Sign key_P_Digits key_Q_Sign key_Q_Digits) ∧ 0 < Tb.aft t_Rows (Fr.fq key_P_Sign key_P_Digits key_Q_Digits)) := (Fr.Fz.no (fun h => hN h.1) (Tb.lkR t_Unit t_Rows (Fr.fq key_P_Sign key_P_Digits key_Q_Digits))).2.2.1
    have e4 : (1 : Int) = if ¬ (Tb.RtT t_Name t_Unit t_Rows ∧ Fr.FrB key_P_Sign key_P_Digits key_Q_Sign key_Q_Digits) then (1 : Int) else if Tb.aft t_Rows (Fr.fq key_P_Sign key_P_Digits key_Q_Digits) = 0 then 4 else 0 := by rw [if_pos hN]
    exact V.ret [2, 0] [{}, {}] [fun _ => {}, fun _ => {}] [] [3, 4] [] (.tuple #[ag (DFrac.mk (DBig.mk 0 ⟨([] : List Int), {}⟩) (DBig.mk 0 ⟨([] : List Int), {}⟩)), iv 1]) (fun _ _ => by kernel_rfl) (fun _ _ => (Eq.trans (by kernel_rfl) (cong3 (fun (x0 : Int) (x2 : Int) (x4 : Int) => (.tuple #[.agg #[iv x0, SV.v ({}), iv x2, SV.v ({})], iv x4] : Value)) e0 e2 e4)).trans (by kernel_rfl)) (fun _ _ => trivial)
  have hP : (Tb.RtT t_Name t_Unit t_Rows ∧ Fr.FrB key_P_Sign key_P_Digits key_Q_Sign key_Q_Digits) := by first | exact q2 | exact ⟨Decidable.not_not.1 (q2).1, Decidable.not_not.1 (q2).2⟩
  have hso := hP.1.so; have hxl := hso.2.1; have hk := hP.2; have hu := hP.1.1.1.1
  have hal := Tb.aft_le t_Rows (Fr.fq key_P_Sign key_P_Digits key_Q_Digits)
  refine nm ((Tb.aft t_Rows (Fr.fq key_P_Sign key_P_Digits key_Q_Digits) : Int) : Int) fun n1 hn1 => ?_
  refine V.g [.ld 0 0 true (fun _ => Dat.cells (DTable.mk t_Name t_Unit ⟨t_Rows, t_Rowss⟩)),.ld 1 0 true (fun _ => Dat.cells (DFrac.mk (DBig.mk key_P_Sign ⟨key_P_Digits, key_P_Digitss⟩) (DBig.mk key_Q_Sign ⟨key_Q_Digits, key_Q_Digitss⟩))),.cp g0 2 66 [(kf false (.f 0) t_Rows (fun _ => t_Rowss)).a, (kf false (.f 1) key_P_Digits (fun _ => key_P_Digitss)).a, (kf false (.f 2) key_Q_Digits (fun _ => key_Q_Digitss)).a] (fun _ G => tafter_ctv t_Name t_Unit t_Rows t_Rowss key_P_Sign key_P_Digits key_P_Digitss key_Q_Sign key_Q_Digits key_Q_Digitss hso hk (by omega) (by omega) n1 hn1),.k (.tuple #[iv n1, bv (decide (0 < Tb.aft t_Rows (Fr.fq key_P_Sign key_P_Digits key_Q_Digits) ∧ (Tb.ky t_Rows (Tb.aft t_Rows (Fr.fq key_P_Sign key_P_Digits key_Q_Digits) - 1) : Rat) = (Fr.fq key_P_Sign key_P_Digits key_Q_Digits)))]),.k (iv n1),.k (bv (decide (0 < Tb.aft t_Rows (Fr.fq key_P_Sign key_P_Digits key_Q_Digits) ∧ (Tb.ky t_Rows (Tb.aft t_Rows (Fr.fq key_P_Sign key_P_Digits key_Q_Digits) - 1) : Rat) = (Fr.fq key_P_Sign key_P_Digits key_Q_Digits)))),.k (iv n1),.k (bv (decide (0 < Tb.aft t_Rows (Fr.fq key_P_Sign key_P_Digits key_Q_Digits) ∧ (Tb.ky t_Rows (Tb.aft t_Rows (Fr.fq key_P_Sign key_P_Digits key_Q_Digits) - 1) : Rat) = (Fr.fq key_P_Sign key_P_Digits key_Q_Digits))))] fun _ _ G4 => ?_
  intro S_ s_
  refine V.g [.k (iv n1),.k (bv (decide (n1 = 0)))] fun _ _ G5 => ?_
  intro S_ s_
  refine V.cond (b := decide (n1 = 0)) iDT iDF (by kernel_rfl) (fun q3 => ?_) (fun q4 => ?_)
  · refine V.g [.k (ag (DFrac.mk (DBig.mk 0 ⟨[], {}⟩) (DBig.mk 0 ⟨[], {}⟩))),.st 2 (fun _ => .blk ((G1 2).b) (ca (DFrac.mk (DBig.mk 0 ⟨[], {}⟩) (DBig.mk 0 ⟨[], {}⟩))) 30),.k (iv 4)] fun _ _ G6 => ?_
    intro S_ s_
    refine V.nilF (α := Int) ?_
    refine V.nilF (α := Int) ?_
    have e1 : ([] : List Int) = Fr.rD ((Tb.RtT t_Name t_Unit t_Rows ∧ Fr.FrB key_P_Sign key_P_Digits key_Q_Sign key_Q_Digits) ∧ 0 < Tb.aft t_Rows (Fr.fq key_P_Sign key_P_Digits key_Q_Digits)) (Tb.lkR t_Unit t_Rows (Fr.fq key_P_Sign key_P_Digits key_Q_Digits)) := by exact (Fr.Fz.no (fun h => by have := h.2; have hqq := q3; omega) (Tb.lkR t_Unit t_Rows (Fr.fq key_P_Sign key_P_Digits key_Q_Digits))).2.1
    rw [← e1]
    have e3 : ([] : List Int) = Fr.rE ((Tb.RtT t_Name t_Unit t_Rows ∧ Fr.FrB key_P_Sign key_P_Digits key_Q_Sign key_Q_Digits) ∧ 0 < Tb.aft t_Rows (Fr.fq key_P_Sign key_P_Digits key_Q_Digits)) (Tb.lkR t_Unit t_Rows (Fr.fq key_P_Sign key_P_Digits key_Q_Digits)) := by exact (Fr.Fz.no (fun h => by have := h.2; have hqq := q3; omega) (Tb.lkR t_Unit t_Rows (Fr.fq key_P_Sign key_P_Digits key_Q_Digits))).2.2.2
    rw [← e3]
    have e0 : (0 : Int) = Fr.rS ((Tb.RtT t_Name t_Unit t_Rows ∧ Fr.FrB key_P_Sign key_P_Digits key_Q_Sign key_Q_Digits) ∧ 0 < Tb.aft t_Rows (Fr.fq key_P_Sign key_P_Digits key_Q_Digits)) (Tb.lkR t_Unit t_Rows (Fr.fq key_P_Sign key_P_Digits key_Q_Digits)) := by exact (Fr.Fz.no (fun h => by have := h.2; have hqq := q3; omega) (Tb.lkR t_Unit t_Rows (Fr.fq key_P_Sign key_P_Digits key_Q_Digits))).1
    have e2 : (0 : Int) = Fr.rT ((Tb.RtT t_Name t_Unit t_Rows ∧ Fr.FrB key_P_Sign key_P_Digits key_Q_Sign key_Q_Digits) ∧ 0 < Tb.aft t_Rows (Fr.fq key_P_Sign key_P_Digits key_Q_Digits)) := by exact (Fr.Fz.no (fun h => by have := h.2; have hqq := q3; omega) (Tb.lkR t_Unit t_Rows (Fr.fq key_P_Sign key_P_Digits key_Q_Digits))).2.2.1
    have e4 : (4 : Int) = if ¬ (Tb.RtT t_Name t_Unit t_Rows ∧ Fr.FrB key_P_Sign key_P_Digits key_Q_Sign key_Q_Digits) then (1 : Int) else if Tb.aft t_Rows (Fr.fq key_P_Sign key_P_Digits key_Q_Digits) = 0 then 4 else 0 := by rw [if_neg (fun h => h hP), if_pos (by have hqq := q3; omega)]
    exact V.ret [2, 0] [{}, {}] [fun _ => {}, fun _ => {}] [] [3, 4] [] (.tuple #[ag (DFrac.mk (DBig.mk 0 ⟨([] : List Int), {}⟩) (DBig.mk 0 ⟨([] : List Int), {}⟩)), iv 4]) (fun _ _ => by kernel_rfl) (fun _ _ => (Eq.trans (by kernel_rfl) (cong3 (fun (x0 : Int) (x2 : Int) (x4 : Int) => (.tuple #[.agg #[iv x0, SV.v ({}), iv x2, SV.v ({})], iv x4] : Value)) e0 e2 e4)).trans (by kernel_rfl)) (fun _ _ => trivial)
  refine nm (t_Rows.getD (n1 - 1).toNat default : DRow) fun x1 hx1 => ?_
  refine nm (Fr.rS (True) ((x1.Value : Rat) * Tb.uf t_Unit) : Int) fun n2 hn2 => ?_
  refine nm (Fr.rD (True) ((x1.Value : Rat) * Tb.uf t_Unit) : List Int) fun l1 hl1 => ?_
  have hl1n := congrArg List.length hl1
  refine nm (Fr.rT (True) : Int) fun n3 hn3 => ?_
  refine nm (Fr.rE (True) ((x1.Value : Rat) * Tb.uf t_Unit) : List Int) fun l2 hl2 => ?_
  have hl2n := congrArg List.length hl2
  have hk_a : Tb.ky t_Rows (Tb.aft t_Rows (Fr.fq key_P_Sign key_P_Digits key_Q_Digits) - 1) = x1.Key := by rw [hx1, show ((n1 - 1)).toNat = Tb.aft t_Rows (Fr.fq key_P_Sign key_P_Digits key_Q_Digits) - 1 by omega]; rfl
  have hv_a : Tb.vl t_Rows (Tb.aft t_Rows (Fr.fq key_P_Sign key_P_Digits key_Q_Digits) - 1) = x1.Value := by rw [hx1, show ((n1 - 1)).toNat = Tb.aft t_Rows (Fr.fq key_P_Sign key_P_Digits key_Q_Digits) - 1 by omega]; rfl
  have hr_a := hso.2.2 (Tb.aft t_Rows (Fr.fq key_P_Sign key_P_Digits key_Q_Digits) - 1) (by omega)
  rw [hk_a, hv_a] at hr_a; unfold Tb.inR at hr_a
  have zf := Fr.Fz.of True.intro hn2 hl1 hn3 hl2
  have hl_zf := zf.len (Tb.worth_hb hu (n := x1.Value) (by omega)); have hl1_zf := hl_zf.1; have hl2_zf := hl_zf.2
  have heqL : (x1.Value : Rat) * Tb.uf t_Unit = Tb.lkR t_Unit t_Rows (Fr.fq key_P_Sign key_P_Digits key_Q_Digits) := by unfold Tb.lkR Tb.wv; rw [hv_a]
  refine V.r [.ld 0 0 true (fun _ => Dat.cells (DTable.mk t_Name t_Unit ⟨t_Rows, t_Rowss⟩)),.k (pp ((G1 0).b) 2),.ld 0 2 false (fun _ => [t_Rowss.v]),.k (iv n1),.a (n1 - 1) (by omega) (by omega),.ix g0 (kf false (.f 0) t_Rows (fun _ => t_Rowss)) (n1 - 1) (fun _ => ⟨by omega, by omega⟩),.k (.pointer (some ((elemAddr t_Rowss.v ((n1 - 1).toNat * 2)).add 1))),.le g0 (kf false (.f 0) t_Rows (fun _ => t_Rowss)) (n1 - 1) (some 1) false x1 hx1 (fun _ => ⟨by omega, by omega⟩) false (fun _ => [iv x1.Value]),.ct g0 8 67 false [] [] [(kf false (.f 0) t_Rows (fun _ => t_Rowss)).a] (fun _ G => tworth_ctv t_Name t_Unit t_Rows t_Rowss x1.Value hu (by omega) (by omega) n2 hn2 l1 hl1 n3 hn3 l2 hl2),.st 2 (fun G => .blk ((G1 2).b) (ca (DFrac.mk (DBig.mk n2 ⟨l1, (G 8).ss 0⟩) (DBig.mk n3 ⟨l2, (G 8).ss 1⟩))) 30),.k (iv 0)] fun _ _ G7 kw7 => ?_
  intro S_ s_
  obtain ⟨⟨kl4, -⟩, ⟨kl5, -⟩, -⟩ : Lq l1 (((G7 8).ss 0).v) ∧ Lq l2 (((G7 8).ss 1).v) ∧ True := kn kw7 (by kernel_rfl)
  clear kw7
  have e1 : l1 = Fr.rD ((Tb.RtT t_Name t_Unit t_Rows ∧ Fr.FrB key_P_Sign key_P_Digits key_Q_Sign key_Q_Digits) ∧ 0 < Tb.aft t_Rows (Fr.fq key_P_Sign key_P_Digits key_Q_Digits)) (Tb.lkR t_Unit t_Rows (Fr.fq key_P_Sign key_P_Digits key_Q_Digits)) := by exact (Fr.Fz.ret zf ⟨hP, by have hqq := q4; omega⟩ (heqL)).2.1
  subst e1
  have e3 : l2 = Fr.rE ((Tb.RtT t_Name t_Unit t_Rows ∧ Fr.FrB key_P_Sign key_P_Digits key_Q_Sign key_Q_Digits) ∧ 0 < Tb.aft t_Rows (Fr.fq key_P_Sign key_P_Digits key_Q_Digits)) (Tb.lkR t_Unit t_Rows (Fr.fq key_P_Sign key_P_Digits key_Q_Digits)) := by exact (Fr.Fz.ret zf ⟨hP, by have hqq := q4; omega⟩ (heqL)).2.2.2
  subst e3
  have e0 : n2 = Fr.rS ((Tb.RtT t_Name t_Unit t_Rows ∧ Fr.FrB key_P_Sign key_P_Digits key_Q_Sign key_Q_Digits) ∧ 0 < Tb.aft t_Rows (Fr.fq key_P_Sign key_P_Digits key_Q_Digits)) (Tb.lkR t_Unit t_Rows (Fr.fq key_P_Sign key_P_Digits key_Q_Digits)) := by exact (Fr.Fz.ret zf ⟨hP, by have hqq := q4; omega⟩ (heqL)).1
  have e2 : n3 = Fr.rT ((Tb.RtT t_Name t_Unit t_Rows ∧ Fr.FrB key_P_Sign key_P_Digits key_Q_Sign key_Q_Digits) ∧ 0 < Tb.aft t_Rows (Fr.fq key_P_Sign key_P_Digits key_Q_Digits)) := by exact (Fr.Fz.ret zf ⟨hP, by have hqq := q4; omega⟩ (heqL)).2.2.1
  have e4 : (0 : Int) = if ¬ (Tb.RtT t_Name t_Unit t_Rows ∧ Fr.FrB key_P_Sign key_P_Digits key_Q_Sign key_Q_Digits) then (1 : Int) else if Tb.aft t_Rows (Fr.fq key_P_Sign key_P_Digits key_Q_Digits) = 0 then 4 else 0 := by rw [if_neg (fun h => h hP), if_neg (by have hqq := q4; omega)]
  exact V.ret [2, 0] [(G7 8).ss 0, (G7 8).ss 1] [fun _ => {}, fun _ => {}] [] [3, 4] [] (.tuple #[ag (DFrac.mk (DBig.mk n2 ⟨(Fr.rD ((Tb.RtT t_Name t_Unit t_Rows ∧ Fr.FrB key_P_Sign key_P_Digits key_Q_Sign key_Q_Digits) ∧ 0 < Tb.aft t_Rows (Fr.fq key_P_Sign key_P_Digits key_Q_Digits)) (Tb.lkR t_Unit t_Rows (Fr.fq key_P_Sign key_P_Digits key_Q_Digits))), (G7 8).ss 0⟩) (DBig.mk n3 ⟨(Fr.rE ((Tb.RtT t_Name t_Unit t_Rows ∧ Fr.FrB key_P_Sign key_P_Digits key_Q_Sign key_Q_Digits) ∧ 0 < Tb.aft t_Rows (Fr.fq key_P_Sign key_P_Digits key_Q_Digits)) (Tb.lkR t_Unit t_Rows (Fr.fq key_P_Sign key_P_Digits key_Q_Digits))), (G7 8).ss 1⟩)), iv 0]) (fun _ _ => by kernel_rfl) (fun _ _ => (Eq.trans (by kernel_rfl) (cong3 (fun (x0 : Int) (x2 : Int) (x4 : Int) => (.tuple #[.agg #[iv x0, ((G7 8).ss 0).v, iv x2, ((G7 8).ss 1).v], iv x4] : Value)) e0 e2 e4)).trans (by kernel_rfl)) (fun _ _ => trivial)
theorem tlook_ctv (t_Name t_Unit : ByteArray) (t_Rows : List DRow) (t_Rowss : SV) (key_P_Sign : Int) (key_P_Digits : List Int) (key_P_Digitss : SV) (key_Q_Sign : Int) (key_Q_Digits : List Int) (key_Q_Digitss : SV) (hs : t_Unit.size ≤ 1000000) (hs2 : t_Name.size ≤ 1000000) (hkeyP : key_P_Digits.length ≤ 17179869184) (hkeyQ : key_Q_Digits.length ≤ 17179869184) (rv0 : Int) (erv0 : rv0 = Fr.rS ((Tb.RtT t_Name t_Unit t_Rows ∧ Fr.FrB key_P_Sign key_P_Digits key_Q_Sign key_Q_Digits) ∧ 0 < Tb.aft t_Rows (Fr.fq key_P_Sign key_P_Digits key_Q_Digits)) (Tb.lkR t_Unit t_Rows (Fr.fq key_P_Sign key_P_Digits key_Q_Digits))) (rv1 : List Int) (erv1 : rv1 = Fr.rD ((Tb.RtT t_Name t_Unit t_Rows ∧ Fr.FrB key_P_Sign key_P_Digits key_Q_Sign key_Q_Digits) ∧ 0 < Tb.aft t_Rows (Fr.fq key_P_Sign key_P_Digits key_Q_Digits)) (Tb.lkR t_Unit t_Rows (Fr.fq key_P_Sign key_P_Digits key_Q_Digits))) (rv2 : Int) (erv2 : rv2 = Fr.rT ((Tb.RtT t_Name t_Unit t_Rows ∧ Fr.FrB key_P_Sign key_P_Digits key_Q_Sign key_Q_Digits) ∧ 0 < Tb.aft t_Rows (Fr.fq key_P_Sign key_P_Digits key_Q_Digits))) (rv3 : List Int) (erv3 : rv3 = Fr.rE ((Tb.RtT t_Name t_Unit t_Rows ∧ Fr.FrB key_P_Sign key_P_Digits key_Q_Sign key_Q_Digits) ∧ 0 < Tb.aft t_Rows (Fr.fq key_P_Sign key_P_Digits key_Q_Digits)) (Tb.lkR t_Unit t_Rows (Fr.fq key_P_Sign key_P_Digits key_Q_Digits))) (rv4 : Int) (erv4 : rv4 = if ¬ (Tb.RtT t_Name t_Unit t_Rows ∧ Fr.FrB key_P_Sign key_P_Digits key_Q_Sign key_Q_Digits) then (1 : Int) else if Tb.aft t_Rows (Fr.fq key_P_Sign key_P_Digits key_Q_Digits) = 0 then 4 else 0) :
    Ct Try.prog 29 #[ag (DTable.mk t_Name t_Unit ⟨t_Rows, t_Rowss⟩), ag (DFrac.mk (DBig.mk key_P_Sign ⟨key_P_Digits, key_P_Digitss⟩) (DBig.mk key_Q_Sign ⟨key_Q_Digits, key_Q_Digitss⟩))] [fs true t_Rows t_Rowss, fs true key_P_Digits key_P_Digitss, fs true key_Q_Digits key_Q_Digitss] [] (fun g => .tuple #[ag (DFrac.mk (DBig.mk rv0 ⟨rv1, (g.ss 0)⟩) (DBig.mk rv2 ⟨rv3, (g.ss 1)⟩)), iv rv4]) (fun g => [fs true rv1 (g.ss 0), fs true rv3 (g.ss 1)]) (fun g => []) (fun g => []) := by
  subst erv0 erv1 erv2 erv3 erv4; exact tlook_ct t_Name t_Unit t_Rows t_Rowss key_P_Sign key_P_Digits key_P_Digitss key_Q_Sign key_Q_Digits key_Q_Digitss hs hs2 hkeyP hkeyQ

open Go Go.Proofs
set_option maxRecDepth 10000 in
set_option maxHeartbeats 2000000 in
theorem tline_ct (t_Name t_Unit : ByteArray) (t_Rows : List DRow) (t_Rowss : SV) (key_P_Sign : Int) (key_P_Digits : List Int) (key_P_Digitss : SV) (key_Q_Sign : Int) (key_Q_Digits : List Int) (key_Q_Digitss : SV) (hs : t_Unit.size ≤ 1000000) (hs2 : t_Name.size ≤ 1000000) (hkeyP : key_P_Digits.length ≤ 1000000) (hkeyQ : key_Q_Digits.length ≤ 1000000) :
    Ct Try.prog 35 #[ag (DTable.mk t_Name t_Unit ⟨t_Rows, t_Rowss⟩), ag (DFrac.mk (DBig.mk key_P_Sign ⟨key_P_Digits, key_P_Digitss⟩) (DBig.mk key_Q_Sign ⟨key_Q_Digits, key_Q_Digitss⟩))] [fs true t_Rows t_Rowss, fs true key_P_Digits key_P_Digitss, fs true key_Q_Digits key_Q_Digitss] [] (fun g => .tuple #[ag (DFrac.mk (DBig.mk (Fr.rS ((Tb.RtT t_Name t_Unit t_Rows ∧ Fr.FrB key_P_Sign key_P_Digits key_Q_Sign key_Q_Digits) ∧ (Tb.lin t_Unit t_Rows (Fr.fq key_P_Sign key_P_Digits key_Q_Digits)).isSome = true) ((Tb.lin t_Unit t_Rows (Fr.fq key_P_Sign key_P_Digits key_Q_Digits)).getD 0)) ⟨Fr.rD ((Tb.RtT t_Name t_Unit t_Rows ∧ Fr.FrB key_P_Sign key_P_Digits key_Q_Sign key_Q_Digits) ∧ (Tb.lin t_Unit t_Rows (Fr.fq key_P_Sign key_P_Digits key_Q_Digits)).isSome = true) ((Tb.lin t_Unit t_Rows (Fr.fq key_P_Sign key_P_Digits key_Q_Digits)).getD 0), (g.ss 0)⟩) (DBig.mk (Fr.rT ((Tb.RtT t_Name t_Unit t_Rows ∧ Fr.FrB key_P_Sign key_P_Digits key_Q_Sign key_Q_Digits) ∧ (Tb.lin t_Unit t_Rows (Fr.fq key_P_Sign key_P_Digits key_Q_Digits)).isSome = true)) ⟨Fr.rE ((Tb.RtT t_Name t_Unit t_Rows ∧ Fr.FrB key_P_Sign key_P_Digits key_Q_Sign key_Q_Digits) ∧ (Tb.lin t_Unit t_Rows (Fr.fq key_P_Sign key_P_Digits key_Q_Digits)).isSome = true) ((Tb.lin t_Unit t_Rows (Fr.fq key_P_Sign key_P_Digits key_Q_Digits)).getD 0), (g.ss 1)⟩)), iv (if ¬ (Tb.RtT t_Name t_Unit t_Rows ∧ Fr.FrB key_P_Sign key_P_Digits key_Q_Sign key_Q_Digits) then (1 : Int) else if (Tb.lin t_Unit t_Rows (Fr.fq key_P_Sign key_P_Digits key_Q_Digits)).isSome = true then 0 else 4)]) (fun g => [fs true (Fr.rD ((Tb.RtT t_Name t_Unit t_Rows ∧ Fr.FrB key_P_Sign key_P_Digits key_Q_Sign key_Q_Digits) ∧ (Tb.lin t_Unit t_Rows (Fr.fq key_P_Sign key_P_Digits key_Q_Digits)).isSome = true) ((Tb.lin t_Unit t_Rows (Fr.fq key_P_Sign key_P_Digits key_Q_Digits)).getD 0)) (g.ss 0), fs true (Fr.rE ((Tb.RtT t_Name t_Unit t_Rows ∧ Fr.FrB key_P_Sign key_P_Digits key_Q_Sign key_Q_Digits) ∧ (Tb.lin t_Unit t_Rows (Fr.fq key_P_Sign key_P_Digits key_Q_Digits)).isSome = true) ((Tb.lin t_Unit t_Rows (Fr.fq key_P_Sign key_P_Digits key_Q_Digits)).getD 0)) (g.ss 1)]) (fun g => []) (fun g => []) := by
  refine V.fn mo Try.func35 105 8 (by kernel_rfl) fun w H ε k0 => ?_
  obtain ⟨⟨kl1, -⟩, ⟨kl2, -⟩, ⟨kl3, -⟩, -⟩ : Lq t_Rows t_Rowss.v ∧ Lq key_P_Digits key_P_Digitss.v ∧ Lq key_Q_Digits key_Q_Digitss.v ∧ True := kn k0 (by kernel_rfl)
  clear k0
  refine V.g [.nb 0 0 (fun b => pp b 0) 55 (fun _ => ca (DTable.mk t_Name t_Unit ⟨t_Rows, t_Rowss⟩)),.nb 1 1 (fun b => pp b 0) 30 (fun _ => ca (DFrac.mk (DBig.mk key_P_Sign ⟨key_P_Digits, key_P_Digitss⟩) (DBig.mk key_Q_Sign ⟨key_Q_Digits, key_Q_Digitss⟩))),.nb 2 2 (fun b => pp b 0) 30 (fun _ => ca (DFrac.mk (DBig.mk 0 ⟨[], {}⟩) (DBig.mk 0 ⟨[], {}⟩))),.k (iv 0)] fun _ _ G1 => ?_
  intro S_ s_
  refine nm ((!(decide (Tb.RtT t_Name t_Unit t_Rows))) || (!(decide (Fr.FrB key_P_Sign key_P_Digits key_Q_Sign key_Q_Digits))) : Bool) fun p1 hp1 => ?_
  refine V.g [.ld 0 0 true (fun _ => Dat.cells (DTable.mk t_Name t_Unit ⟨t_Rows, t_Rowss⟩)),.cp g0 1 32 [(kf false (.f 0) t_Rows (fun _ => t_Rowss)).a] (fun _ G => tright_ct t_Name t_Unit t_Rows t_Rowss (by omega) (by omega)),.k (bv (!(decide (Tb.RtT t_Name t_Unit t_Rows)))),.k (bv (!(decide (Tb.RtT t_Name t_Unit t_Rows)))),.ld 1 0 true (fun _ => Dat.cells (DFrac.mk (DBig.mk key_P_Sign ⟨key_P_Digits, key_P_Digitss⟩) (DBig.mk key_Q_Sign ⟨key_Q_Digits, key_Q_Digitss⟩))),.cp (gF (b := !(decide (Tb.RtT t_Name t_Unit t_Rows))) (iNF iDT)) 5 24 [(kf false (.f 1) key_P_Digits (fun _ => key_P_Digitss)).a, (kf false (.f 2) key_Q_Digits (fun _ => key_Q_Digitss)).a] (fun hg G => right_ct key_P_Sign key_P_Digits key_P_Digitss key_Q_Sign key_Q_Digits key_Q_Digitss (by omega) (by omega)),.k (bv (!(decide (Fr.FrB key_P_Sign key_P_Digits key_Q_Sign key_Q_Digits)))),.orn g0 false (!(decide (Tb.RtT t_Name t_Unit t_Rows))) (!(decide (Fr.FrB key_P_Sign key_P_Digits key_Q_Sign key_Q_Digits))) p1 hp1] fun _ _ G2 => ?_
  intro S_ s_
  refine V.cond (b := p1) (iN hp1 (iOT (iNT iDF) (iNT iDF))) (iN hp1 (iOF (iNF iDT) (iNF iDT))) (by kernel_rfl) (fun q1 => ?_) (fun q2 => ?_)
  · have hN : ¬ (Tb.RtT t_Name t_Unit t_Rows ∧ Fr.FrB key_P_Sign key_P_Digits key_Q_Sign key_Q_Digits) := by rintro ⟨h1, h2⟩; rcases q1 with h | h; exact h h1; exact h h2
    refine V.g [.k (ag (DFrac.mk (DBig.mk 0 ⟨[], {}⟩) (DBig.mk 0 ⟨[], {}⟩))),.st 2 (fun _ => .blk ((G1 2).b) (ca (DFrac.mk (DBig.mk 0 ⟨[], {}⟩) (DBig.mk 0 ⟨[], {}⟩))) 30),.k (iv 1)] fun _ _ G3 => ?_
    intro S_ s_
    refine V.nilF (α := Int) ?_
    refine V.nilF (α := Int) ?_
    have e1 : ([] : List Int) = Fr.rD ((Tb.RtT t_Name t_Unit t_Rows ∧ Fr.FrB key_P_Sign key_P_Digits key_Q_Sign key_Q_Digits) ∧ (Tb.lin t_Unit t_Rows (Fr.fq key_P_Sign key_P_Digits key_Q_Digits)).isSome = true) ((Tb.lin t_Unit t_Rows (Fr.fq key_P_Sign key_P_Digits key_Q_Digits)).getD 0) := (Fr.Fz.no (fun h => hN h.1) ((Tb.lin t_Unit t_Rows (Fr.fq key_P_Sign key_P_Digits key_Q_Digits)).getD 0)).2.1
    rw [← e1]
    have e3 : ([] : List Int) = Fr.rE ((Tb.RtT t_Name t_Unit t_Rows ∧ Fr.FrB key_P_Sign key_P_Digits key_Q_Sign key_Q_Digits) ∧ (Tb.lin t_Unit t_Rows (Fr.fq key_P_Sign key_P_Digits key_Q_Digits)).isSome = true) ((Tb.lin t_Unit t_Rows (Fr.fq key_P_Sign key_P_Digits key_Q_Digits)).getD 0) := (Fr.Fz.no (fun h => hN h.1) ((Tb.lin t_Unit t_Rows (Fr.fq key_P_Sign key_P_Digits key_Q_Digits)).getD 0)).2.2.2
    rw [← e3]
    have e0 : (0 : Int) = Fr.rS ((Tb.RtT t_Name t_Unit t_Rows ∧ Fr.FrB key_P_Sign key_P_Digits key_Q_Sign key_Q_Digits) ∧ (Tb.lin t_Unit t_Rows (Fr.fq key_P_Sign key_P_Digits key_Q_Digits)).isSome = true) ((Tb.lin t_Unit t_Rows (Fr.fq key_P_Sign key_P_Digits key_Q_Digits)).getD 0) := (Fr.Fz.no (fun h => hN h.1) ((Tb.lin t_Unit t_Rows (Fr.fq key_P_Sign key_P_Digits key_Q_Digits)).getD 0)).1
    have e2 : (0 : Int) = Fr.rT ((Tb.RtT t_Name t_Unit t_Rows ∧ Fr.FrB key_P_Sign key_P_Digits key_Q_Sign key_Q_Digits) ∧ (Tb.lin t_Unit t_Rows (Fr.fq key_P_Sign key_P_Digits key_Q_Digits)).isSome = true) := (Fr.Fz.no (fun h => hN h.1) ((Tb.lin t_Unit t_Rows (Fr.fq key_P_Sign key_P_Digits key_Q_Digits)).getD 0)).2.2.1
    have e4 : (1 : Int) = if ¬ (Tb.RtT t_Name t_Unit t_Rows ∧ Fr.FrB key_P_Sign key_P_Digits key_Q_Sign key_Q_Digits) then (1 : Int) else if (Tb.lin t_Unit t_Rows (Fr.fq key_P_Sign key_P_Digits key_Q_Digits)).isSome = true then 0 else 4 := by rw [if_pos hN]
    exact V.ret [2, 0] [{}, {}] [fun _ => {}, fun _ => {}] [] [3, 4] [] (.tuple #[ag (DFrac.mk (DBig.mk 0 ⟨([] : List Int), {}⟩) (DBig.mk 0 ⟨([] : List Int), {}⟩)), iv 1]) (fun _ _ => by kernel_rfl) (fun _ _ => (Eq.trans (by kernel_rfl) (cong3 (fun (x0 : Int) (x2 : Int) (x4 : Int) => (.tuple #[.agg #[iv x0, SV.v ({}), iv x2, SV.v ({})], iv x4] : Value)) e0 e2 e4)).trans (by kernel_rfl)) (fun _ _ => trivial)
  have hP : (Tb.RtT t_Name t_Unit t_Rows ∧ Fr.FrB key_P_Sign key_P_Digits key_Q_Sign key_Q_Digits) := by first | exact q2 | exact ⟨Decidable.not_not.1 (q2).1, Decidable.not_not.1 (q2).2⟩
  have hso := hP.1.so; have hxl := hso.2.1; have hk := hP.2; have hu := hP.1.1.1.1
  have hal := Tb.aft_le t_Rows (Fr.fq key_P_Sign key_P_Digits key_Q_Digits)
  refine nm ((Tb.aft t_Rows (Fr.fq key_P_Sign key_P_Digits key_Q_Digits) : Int) : Int) fun n1 hn1 => ?_
  refine V.g [.ld 0 0 true (fun _ => Dat.cells (DTable.mk t_Name t_Unit ⟨t_Rows, t_Rowss⟩)),.ld 1 0 true (fun _ => Dat.cells (DFrac.mk (DBig.mk key_P_Sign ⟨key_P_Digits, key_P_Digitss⟩) (DBig.mk key_Q_Sign ⟨key_Q_Digits, key_Q_Digitss⟩))),.cp g0 2 66 [(kf false (.f 0) t_Rows (fun _ => t_Rowss)).a, (kf false (.f 1) key_P_Digits (fun _ => key_P_Digitss)).a, (kf false (.f 2) key_Q_Digits (fun _ => key_Q_Digitss)).a] (fun _ G => tafter_ctv t_Name t_Unit t_Rows t_Rowss key_P_Sign key_P_Digits key_P_Digitss key_Q_Sign key_Q_Digits key_Q_Digitss hso hk (by omega) (by omega) n1 hn1),.k (.tuple #[iv n1, bv (decide (0 < Tb.aft t_Rows (Fr.fq key_P_Sign key_P_Digits key_Q_Digits) ∧ (Tb.ky t_Rows (Tb.aft t_Rows (Fr.fq key_P_Sign key_P_Digits key_Q_Digits) - 1) : Rat) = (Fr.fq key_P_Sign key_P_Digits key_Q_Digits)))]),.k (iv n1),.k (bv (decide (0 < Tb.aft t_Rows (Fr.fq key_P_Sign key_P_Digits key_Q_Digits) ∧ (Tb.ky t_Rows (Tb.aft t_Rows (Fr.fq key_P_Sign key_P_Digits key_Q_Digits) - 1) : Rat) = (Fr.fq key_P_Sign key_P_Digits key_Q_Digits)))),.k (iv n1),.k (bv (decide (0 < Tb.aft t_Rows (Fr.fq key_P_Sign key_P_Digits key_Q_Digits) ∧ (Tb.ky t_Rows (Tb.aft t_Rows (Fr.fq key_P_Sign key_P_Digits key_Q_Digits) - 1) : Rat) = (Fr.fq key_P_Sign key_P_Digits key_Q_Digits))))] fun _ _ G4 => ?_
  intro S_ s_
  refine V.g [.k (bv (decide (0 < Tb.aft t_Rows (Fr.fq key_P_Sign key_P_Digits key_Q_Digits) ∧ (Tb.ky t_Rows (Tb.aft t_Rows (Fr.fq key_P_Sign key_P_Digits key_Q_Digits) - 1) : Rat) = (Fr.fq key_P_Sign key_P_Digits key_Q_Digits)))),.k (bv (decide (0 < Tb.aft t_Rows (Fr.fq key_P_Sign key_P_Digits key_Q_Digits) ∧ (Tb.ky t_Rows (Tb.aft t_Rows (Fr.fq key_P_Sign key_P_Digits key_Q_Digits) - 1) : Rat) = (Fr.fq key_P_Sign key_P_Digits key_Q_Digits))))] fun _ _ G5 => ?_
  intro S_ s_
  refine V.cond (b := decide (0 < Tb.aft t_Rows (Fr.fq key_P_Sign key_P_Digits key_Q_Digits) ∧ (Tb.ky t_Rows (Tb.aft t_Rows (Fr.fq key_P_Sign key_P_Digits key_Q_Digits) - 1) : Rat) = (Fr.fq key_P_Sign key_P_Digits key_Q_Digits))) iDT iDF (by kernel_rfl) (fun q3 => ?_) (fun q4 => ?_)
  · refine nm (t_Rows.getD (n1 - 1).toNat default : DRow) fun x1 hx1 => ?_
    refine nm (Fr.rS (True) ((x1.Value : Rat) * Tb.uf t_Unit) : Int) fun n2 hn2 => ?_
    refine nm (Fr.rD (True) ((x1.Value : Rat) * Tb.uf t_Unit) : List Int) fun l1 hl1 => ?_
    have hl1n := congrArg List.length hl1
    refine nm (Fr.rT (True) : Int) fun n3 hn3 => ?_
    refine nm (Fr.rE (True) ((x1.Value : Rat) * Tb.uf t_Unit) : List Int) fun l2 hl2 => ?_
    have hl2n := congrArg List.length hl2
    have hIs : 0 < Tb.aft t_Rows (Fr.fq key_P_Sign key_P_Digits key_Q_Digits) ∧ (Tb.ky t_Rows (Tb.aft t_Rows (Fr.fq key_P_Sign key_P_Digits key_Q_Digits) - 1) : Rat) = (Fr.fq key_P_Sign key_P_Digits key_Q_Digits) := q3
    have hk_a : Tb.ky t_Rows (Tb.aft t_Rows (Fr.fq key_P_Sign key_P_Digits key_Q_Digits) - 1) = x1.Key := by rw [hx1, show ((n1 - 1)).toNat = Tb.aft t_Rows (Fr.fq key_P_Sign key_P_Digits key_Q_Digits) - 1 by omega]; rfl
    have hv_a : Tb.vl t_Rows (Tb.aft t_Rows (Fr.fq key_P_Sign key_P_Digits key_Q_Digits) - 1) = x1.Value := by rw [hx1, show ((n1 - 1)).toNat = Tb.aft t_Rows (Fr.fq key_P_Sign key_P_Digits key_Q_Digits) - 1 by omega]; rfl
    have hr_a := hso.2.2 (Tb.aft t_Rows (Fr.fq key_P_Sign key_P_Digits key_Q_Digits) - 1) (by omega)
    rw [hk_a, hv_a] at hr_a; unfold Tb.inR at hr_a
    have zf := Fr.Fz.of True.intro hn2 hl1 hn3 hl2
    have hl_zf := zf.len (Tb.worth_hb hu (n := x1.Value) (by omega)); have hl1_zf := hl_zf.1; have hl2_zf := hl_zf.2
    have hlin : (Tb.lin t_Unit t_Rows (Fr.fq key_P_Sign key_P_Digits key_Q_Digits)) = some ((x1.Value : Rat) * Tb.uf t_Unit) := by unfold Tb.lin; rw [if_neg (by omega), if_pos hIs.2]; unfold Tb.wv; rw [hv_a]
    have hlg : (x1.Value : Rat) * Tb.uf t_Unit = (Tb.lin t_Unit t_Rows (Fr.fq key_P_Sign key_P_Digits key_Q_Digits)).getD 0 := by rw [hlin]; rfl
    refine V.r [.ld 0 0 true (fun _ => Dat.cells (DTable.mk t_Name t_Unit ⟨t_Rows, t_Rowss⟩)),.k (pp ((G1 0).b) 2),.ld 0 2 false (fun _ => [t_Rowss.v]),.k (iv n1),.a (n1 - 1) (by omega) (by omega),.ix g0 (kf false (.f 0) t_Rows (fun _ => t_Rowss)) (n1 - 1) (fun _ => ⟨by omega, by omega⟩),.k (.pointer (some ((elemAddr t_Rowss.v ((n1 - 1).toNat * 2)).add 1))),.le g0 (kf false (.f 0) t_Rows (fun _ => t_Rowss)) (n1 - 1) (some 1) false x1 hx1 (fun _ => ⟨by omega, by omega⟩) false (fun _ => [iv x1.Value]),.ct g0 8 67 false [] [] [(kf false (.f 0) t_Rows (fun _ => t_Rowss)).a] (fun _ G => tworth_ctv t_Name t_Unit t_Rows t_Rowss x1.Value hu (by omega) (by omega) n2 hn2 l1 hl1 n3 hn3 l2 hl2),.st 2 (fun G => .blk ((G1 2).b) (ca (DFrac.mk (DBig.mk n2 ⟨l1, (G 8).ss 0⟩) (DBig.mk n3 ⟨l2, (G 8).ss 1⟩))) 30),.k (iv 0)] fun _ _ G6 kw6 => ?_
    intro S_ s_
    obtain ⟨⟨kl4, -⟩, ⟨kl5, -⟩, -⟩ : Lq l1 (((G6 8).ss 0).v) ∧ Lq l2 (((G6 8).ss 1).v) ∧ True := kn kw6 (by kernel_rfl)
    clear kw6
    have e1 : l1 = Fr.rD ((Tb.RtT t_Name t_Unit t_Rows ∧ Fr.FrB key_P_Sign key_P_Digits key_Q_Sign key_Q_Digits) ∧ (Tb.lin t_Unit t_Rows (Fr.fq key_P_Sign key_P_Digits key_Q_Digits)).isSome = true) ((Tb.lin t_Unit t_Rows (Fr.fq key_P_Sign key_P_Digits key_Q_Digits)).getD 0) := by exact (Fr.Fz.ret zf ⟨hP, by rw [hlin]; rfl⟩ (hlg)).2.1
    subst e1
    have e3 : l2 = Fr.rE ((Tb.RtT t_Name t_Unit t_Rows ∧ Fr.FrB key_P_Sign key_P_Digits key_Q_Sign key_Q_Digits) ∧ (Tb.lin t_Unit t_Rows (Fr.fq key_P_Sign key_P_Digits key_Q_Digits)).isSome = true) ((Tb.lin t_Unit t_Rows (Fr.fq key_P_Sign key_P_Digits key_Q_Digits)).getD 0) := by exact (Fr.Fz.ret zf ⟨hP, by rw [hlin]; rfl⟩ (hlg)).2.2.2
    subst e3
    have e0 : n2 = Fr.rS ((Tb.RtT t_Name t_Unit t_Rows ∧ Fr.FrB key_P_Sign key_P_Digits key_Q_Sign key_Q_Digits) ∧ (Tb.lin t_Unit t_Rows (Fr.fq key_P_Sign key_P_Digits key_Q_Digits)).isSome = true) ((Tb.lin t_Unit t_Rows (Fr.fq key_P_Sign key_P_Digits key_Q_Digits)).getD 0) := by exact (Fr.Fz.ret zf ⟨hP, by rw [hlin]; rfl⟩ (hlg)).1
    have e2 : n3 = Fr.rT ((Tb.RtT t_Name t_Unit t_Rows ∧ Fr.FrB key_P_Sign key_P_Digits key_Q_Sign key_Q_Digits) ∧ (Tb.lin t_Unit t_Rows (Fr.fq key_P_Sign key_P_Digits key_Q_Digits)).isSome = true) := by exact (Fr.Fz.ret zf ⟨hP, by rw [hlin]; rfl⟩ (hlg)).2.2.1
    have e4 : (0 : Int) = if ¬ (Tb.RtT t_Name t_Unit t_Rows ∧ Fr.FrB key_P_Sign key_P_Digits key_Q_Sign key_Q_Digits) then (1 : Int) else if (Tb.lin t_Unit t_Rows (Fr.fq key_P_Sign key_P_Digits key_Q_Digits)).isSome = true then 0 else 4 := by rw [if_neg (fun h => h hP), hlin]; rfl
    exact V.ret [2, 0] [(G6 8).ss 0, (G6 8).ss 1] [fun _ => {}, fun _ => {}] [] [3, 4] [] (.tuple #[ag (DFrac.mk (DBig.mk n2 ⟨(Fr.rD ((Tb.RtT t_Name t_Unit t_Rows ∧ Fr.FrB key_P_Sign key_P_Digits key_Q_Sign key_Q_Digits) ∧ (Tb.lin t_Unit t_Rows (Fr.fq key_P_Sign key_P_Digits key_Q_Digits)).isSome = true) ((Tb.lin t_Unit t_Rows (Fr.fq key_P_Sign key_P_Digits key_Q_Digits)).getD 0)), (G6 8).ss 0⟩) (DBig.mk n3 ⟨(Fr.rE ((Tb.RtT t_Name t_Unit t_Rows ∧ Fr.FrB key_P_Sign key_P_Digits key_Q_Sign key_Q_Digits) ∧ (Tb.lin t_Unit t_Rows (Fr.fq key_P_Sign key_P_Digits key_Q_Digits)).isSome = true) ((Tb.lin t_Unit t_Rows (Fr.fq key_P_Sign key_P_Digits key_Q_Digits)).getD 0)), (G6 8).ss 1⟩)), iv 0]) (fun _ _ => by kernel_rfl) (fun _ _ => (Eq.trans (by kernel_rfl) (cong3 (fun (x0 : Int) (x2 : Int) (x4 : Int) => (.tuple #[.agg #[iv x0, ((G6 8).ss 0).v, iv x2, ((G6 8).ss 1).v], iv x4] : Value)) e0 e2 e4)).trans (by kernel_rfl)) (fun _ _ => trivial)
  refine nm ((decide (n1 = 0)) || (decide (n1 = (t_Rows.length : Int))) : Bool) fun p2 hp2 => ?_
  refine V.g [.k (iv n1),.k (bv (decide (n1 = 0))),.k (bv (decide (n1 = 0))),.k (iv n1),.k (pp ((G1 0).b) 2),.ld 0 2 false (fun _ => [t_Rowss.v]),.ln (kf false (.f 0) t_Rows (fun _ => t_Rowss)),.k (bv (decide (n1 = (t_Rows.length : Int)))),.orn g0 false (decide (n1 = 0)) (decide (n1 = (t_Rows.length : Int))) p2 hp2,.k (bv p2)] fun _ _ G7 => ?_
  intro S_ s_
  refine V.cond (b := p2) (iN hp2 (iOT iDT iDT)) (iN hp2 (iOF iDF iDF)) (by kernel_rfl) (fun q5 => ?_) (fun q6 => ?_)
  · have hlin : (Tb.lin t_Unit t_Rows (Fr.fq key_P_Sign key_P_Digits key_Q_Digits)) = none := Tb.lin_no (by have hqq := q5; rcases hqq with h | h; exact .inl (by omega); exact .inr ⟨q4, by omega⟩)
    refine V.g [.k (ag (DFrac.mk (DBig.mk 0 ⟨[], {}⟩) (DBig.mk 0 ⟨[], {}⟩))),.st 2 (fun _ => .blk ((G1 2).b) (ca (DFrac.mk (DBig.mk 0 ⟨[], {}⟩) (DBig.mk 0 ⟨[], {}⟩))) 30),.k (iv 4)] fun _ _ G8 => ?_
    intro S_ s_
    refine V.nilF (α := Int) ?_
    refine V.nilF (α := Int) ?_
    have e1 : ([] : List Int) = Fr.rD ((Tb.RtT t_Name t_Unit t_Rows ∧ Fr.FrB key_P_Sign key_P_Digits key_Q_Sign key_Q_Digits) ∧ (Tb.lin t_Unit t_Rows (Fr.fq key_P_Sign key_P_Digits key_Q_Digits)).isSome = true) ((Tb.lin t_Unit t_Rows (Fr.fq key_P_Sign key_P_Digits key_Q_Digits)).getD 0) := by exact (Fr.Fz.no (fun h => by have h2 := h.2; rw [hlin] at h2; cases h2) ((Tb.lin t_Unit t_Rows (Fr.fq key_P_Sign key_P_Digits key_Q_Digits)).getD 0)).2.1
    rw [← e1]
    have e3 : ([] : List Int) = Fr.rE ((Tb.RtT t_Name t_Unit t_Rows ∧ Fr.FrB key_P_Sign key_P_Digits key_Q_Sign key_Q_Digits) ∧ (Tb.lin t_Unit t_Rows (Fr.fq key_P_Sign key_P_Digits key_Q_Digits)).isSome = true) ((Tb.lin t_Unit t_Rows (Fr.fq key_P_Sign key_P_Digits key_Q_Digits)).getD 0) := by exact (Fr.Fz.no (fun h => by have h2 := h.2; rw [hlin] at h2; cases h2) ((Tb.lin t_Unit t_Rows (Fr.fq key_P_Sign key_P_Digits key_Q_Digits)).getD 0)).2.2.2
    rw [← e3]
    have e0 : (0 : Int) = Fr.rS ((Tb.RtT t_Name t_Unit t_Rows ∧ Fr.FrB key_P_Sign key_P_Digits key_Q_Sign key_Q_Digits) ∧ (Tb.lin t_Unit t_Rows (Fr.fq key_P_Sign key_P_Digits key_Q_Digits)).isSome = true) ((Tb.lin t_Unit t_Rows (Fr.fq key_P_Sign key_P_Digits key_Q_Digits)).getD 0) := by exact (Fr.Fz.no (fun h => by have h2 := h.2; rw [hlin] at h2; cases h2) ((Tb.lin t_Unit t_Rows (Fr.fq key_P_Sign key_P_Digits key_Q_Digits)).getD 0)).1
    have e2 : (0 : Int) = Fr.rT ((Tb.RtT t_Name t_Unit t_Rows ∧ Fr.FrB key_P_Sign key_P_Digits key_Q_Sign key_Q_Digits) ∧ (Tb.lin t_Unit t_Rows (Fr.fq key_P_Sign key_P_Digits key_Q_Digits)).isSome = true) := by exact (Fr.Fz.no (fun h => by have h2 := h.2; rw [hlin] at h2; cases h2) ((Tb.lin t_Unit t_Rows (Fr.fq key_P_Sign key_P_Digits key_Q_Digits)).getD 0)).2.2.1
    have e4 : (4 : Int) = if ¬ (Tb.RtT t_Name t_Unit t_Rows ∧ Fr.FrB key_P_Sign key_P_Digits key_Q_Sign key_Q_Digits) then (1 : Int) else if (Tb.lin t_Unit t_Rows (Fr.fq key_P_Sign key_P_Digits key_Q_Digits)).isSome = true then 0 else 4 := by rw [if_neg (fun h => h hP), hlin]; rfl
    exact V.ret [2, 0] [{}, {}] [fun _ => {}, fun _ => {}] [] [3, 4] [] (.tuple #[ag (DFrac.mk (DBig.mk 0 ⟨([] : List Int), {}⟩) (DBig.mk 0 ⟨([] : List Int), {}⟩)), iv 4]) (fun _ _ => by kernel_rfl) (fun _ _ => (Eq.trans (by kernel_rfl) (cong3 (fun (x0 : Int) (x2 : Int) (x4 : Int) => (.tuple #[.agg #[iv x0, SV.v ({}), iv x2, SV.v ({})], iv x4] : Value)) e0 e2 e4)).trans (by kernel_rfl)) (fun _ _ => trivial)
  refine nm (t_Rows.getD (n1 - 1).toNat default : DRow) fun x2 hx2 => ?_
  refine nm (t_Rows.getD n1.toNat default : DRow) fun x3 hx3 => ?_
  refine V.g [.k (pp ((G1 0).b) 2),.ld 0 2 false (fun _ => [t_Rowss.v]),.k (iv n1),.a (n1 - 1) (by omega) (by omega),.ix g0 (kf false (.f 0) t_Rows (fun _ => t_Rowss)) (n1 - 1) (fun _ => ⟨by omega, by omega⟩),.le g0 (kf false (.f 0) t_Rows (fun _ => t_Rowss)) (n1 - 1) none false x2 hx2 (fun _ => ⟨by omega, by omega⟩) true (fun _ => Dat.cells x2),.k (pp ((G1 0).b) 2),.ld 0 2 false (fun _ => [t_Rowss.v]),.k (iv n1),.ix g0 (kf false (.f 0) t_Rows (fun _ => t_Rowss)) n1 (fun _ => ⟨by omega, by omega⟩),.le g0 (kf false (.f 0) t_Rows (fun _ => t_Rowss)) n1 none false x3 hx3 (fun _ => ⟨by omega, by omega⟩) true (fun _ => Dat.cells x3),.nb 11 3 (fun b => pp b 0) 60 (fun _ => ca (DRow.mk 0 0)),.nb 12 4 (fun b => pp b 0) 60 (fun _ => ca (DRow.mk 0 0)),.st 3 (fun G => .blk ((G 11).b) (ca x2) 60),.st 4 (fun G => .blk ((G 12).b) (ca x3) 60)] fun _ _ G9 => ?_
  intro S_ s_
  have hqq := q6
  have hne : ¬ ((Tb.ky t_Rows (Tb.aft t_Rows (Fr.fq key_P_Sign key_P_Digits key_Q_Digits) - 1) : Rat) = (Fr.fq key_P_Sign key_P_Digits key_Q_Digits)) := fun h => q4 ⟨by omega, h⟩
  have hk_a : Tb.ky t_Rows (Tb.aft t_Rows (Fr.fq key_P_Sign key_P_Digits key_Q_Digits) - 1) = x2.Key := by rw [hx2, show ((n1 - 1)).toNat = Tb.aft t_Rows (Fr.fq key_P_Sign key_P_Digits key_Q_Digits) - 1 by omega]; rfl
  have hv_a : Tb.vl t_Rows (Tb.aft t_Rows (Fr.fq key_P_Sign key_P_Digits key_Q_Digits) - 1) = x2.Value := by rw [hx2, show ((n1 - 1)).toNat = Tb.aft t_Rows (Fr.fq key_P_Sign key_P_Digits key_Q_Digits) - 1 by omega]; rfl
  have hr_a := hso.2.2 (Tb.aft t_Rows (Fr.fq key_P_Sign key_P_Digits key_Q_Digits) - 1) (by omega)
  rw [hk_a, hv_a] at hr_a; unfold Tb.inR at hr_a
  have hk_b : Tb.ky t_Rows (Tb.aft t_Rows (Fr.fq key_P_Sign key_P_Digits key_Q_Digits)) = x3.Key := by rw [hx3, show (n1).toNat = Tb.aft t_Rows (Fr.fq key_P_Sign key_P_Digits key_Q_Digits) by omega]; rfl
  have hv_b : Tb.vl t_Rows (Tb.aft t_Rows (Fr.fq key_P_Sign key_P_Digits key_Q_Digits)) = x3.Value := by rw [hx3, show (n1).toNat = Tb.aft t_Rows (Fr.fq key_P_Sign key_P_Digits key_Q_Digits) by omega]; rfl
  have hr_b := hso.2.2 (Tb.aft t_Rows (Fr.fq key_P_Sign key_P_Digits key_Q_Digits)) (by omega)
  rw [hk_b, hv_b] at hr_b; unfold Tb.inR at hr_b
  have hlt := hso.1 (Tb.aft t_Rows (Fr.fq key_P_Sign key_P_Digits key_Q_Digits) - 1) (Tb.aft t_Rows (Fr.fq key_P_Sign key_P_Digits key_Q_Digits)) (by omega) (by omega)
  rw [hk_a, hk_b] at hlt
  have hlin : (Tb.lin t_Unit t_Rows (Fr.fq key_P_Sign key_P_Digits key_Q_Digits)) = some ((x2.Value : Rat) * Tb.uf t_Unit + ((Fr.fq key_P_Sign key_P_Digits key_Q_Digits) - (x2.Key : Rat)) / ((x3.Key - x2.Key : Int) : Rat) * (((x3.Value - x2.Value : Int) : Rat) * Tb.uf t_Unit)) := by unfold Tb.lin Tb.wv; rw [if_neg (by omega), if_neg hne, if_neg (by omega), hk_a, hk_b, hv_a, hv_b]
  have zK := Fr.FrB.z hk; have hbK := hk.hb (k := 8589934592) (by omega) (by omega)
  refine nm (Bg.sgn x2.Key : Int) fun n4 hn4 => ?_
  refine nm (Bg.dig x2.Key.natAbs : List Int) fun l3 hl3 => ?_
  have hl3n := congrArg List.length hl3
  refine nm (Bg.dig 1 : List Int) fun l4 hl4 => ?_
  have hl4n := congrArg List.length hl4
  refine nm (Fr.rS (Fr.FrB key_P_Sign key_P_Digits key_Q_Sign key_Q_Digits ∧ Fr.FrB n4 l3 (1 : Int) l4) ((Fr.fq key_P_Sign key_P_Digits key_Q_Digits) - (Fr.fq n4 l3 l4)) : Int) fun n5 hn5 => ?_
  refine nm (Fr.rD (Fr.FrB key_P_Sign key_P_Digits key_Q_Sign key_Q_Digits ∧ Fr.FrB n4 l3 (1 : Int) l4) ((Fr.fq key_P_Sign key_P_Digits key_Q_Digits) - (Fr.fq n4 l3 l4)) : List Int) fun l5 hl5 => ?_
  have hl5n := congrArg List.length hl5
  refine nm (Fr.rT (Fr.FrB key_P_Sign key_P_Digits key_Q_Sign key_Q_Digits ∧ Fr.FrB n4 l3 (1 : Int) l4) : Int) fun n6 hn6 => ?_
  refine nm (Fr.rE (Fr.FrB key_P_Sign key_P_Digits key_Q_Sign key_Q_Digits ∧ Fr.FrB n4 l3 (1 : Int) l4) ((Fr.fq key_P_Sign key_P_Digits key_Q_Digits) - (Fr.fq n4 l3 l4)) : List Int) fun l6 hl6 => ?_
  have hl6n := congrArg List.length hl6
  refine nm (if ¬ (Fr.FrB key_P_Sign key_P_Digits key_Q_Sign key_Q_Digits ∧ Fr.FrB n4 l3 (1 : Int) l4) then (1 : Int) else 0 : Int) fun n7 hn7 => ?_
  have zi : Fr.Fz n4 l3 1 l4 (x2.Key : Rat) := by subst_vars; exact Un.intz _
  have hi9 := zi.len (Fr.Hb.int (n := x2.Key) (by omega)); have hi91 := hi9.1; have hi92 := hi9.2
  have zs := Fr.Fz.of (And.intro hk zi.rt) hn5 hl5 hn6 hl6
  rw [zi.v] at zs
  have hls := zs.len ((hk.hb (k := 1000000) (by omega) (by omega)).sub (Fr.Hb.int (n := x2.Key) (by omega))); have hls1 := hls.1; have hls2 := hls.2
  refine V.r [.ld 1 0 true (fun _ => Dat.cells (DFrac.mk (DBig.mk key_P_Sign ⟨key_P_Digits, key_P_Digitss⟩) (DBig.mk key_Q_Sign ⟨key_Q_Digits, key_Q_Digitss⟩))),.k (pp ((G9 11).b) 0),.ld 3 0 false (fun _ => [iv x2.Key]),.ct g0 3 46 false [] [] [] (fun _ G => fint_ctv x2.Key (by omega) n4 hn4 l3 hl3 l4 hl4),.ct g0 4 72 false [] [] [(kf false (.f 1) key_P_Digits (fun _ => key_P_Digitss)).a, (kf false (.f 2) key_Q_Digits (fun _ => key_Q_Digitss)).a, (kf true (.g 3 0) l3 (fun G => (G 3).ss 0)).a, (kf true (.g 3 1) l4 (fun G => (G 3).ss 1)).a] (fun _ G => fsub_ctv key_P_Sign key_P_Digits key_P_Digitss key_Q_Sign key_Q_Digits key_Q_Digitss n4 l3 ((G 3).ss 0) (1 : Int) l4 ((G 3).ss 1) (by omega) (by omega) (by omega) (by omega) n5 hn5 l5 hl5 n6 hn6 l6 hl6 n7 hn7),.v fun G => .tuple #[ag (DFrac.mk (DBig.mk n5 ⟨l5, (G 4).ss 0⟩) (DBig.mk n6 ⟨l6, (G 4).ss 1⟩)), iv n7],.v fun G => ag (DFrac.mk (DBig.mk n5 ⟨l5, (G 4).ss 0⟩) (DBig.mk n6 ⟨l6, (G 4).ss 1⟩)),.k (iv n7),.nb 8 5 (fun b => pp b 0) 30 (fun _ => ca (DFrac.mk (DBig.mk 0 ⟨[], {}⟩) (DBig.mk 0 ⟨[], {}⟩))),.st 5 (fun G => .blk ((G 8).b) (ca (DFrac.mk (DBig.mk n5 ⟨l5, (G 4).ss 0⟩) (DBig.mk n6 ⟨l6, (G 4).ss 1⟩))) 30),.k (iv n7)] fun _ _ G10 kw10 => ?_
  intro S_ s_
  obtain ⟨⟨kl6, -⟩, ⟨kl7, -⟩, ⟨kl8, -⟩, ⟨kl9, -⟩, -⟩ : Lq l3 (((G10 3).ss 0).v) ∧ Lq l4 (((G10 3).ss 1).v) ∧ Lq l5 (((G10 4).ss 0).v) ∧ Lq l6 (((G10 4).ss 1).v) ∧ True := kn kw10 (by kernel_rfl)
  clear kw10
  refine nm (x3.Key - x2.Key : Int) fun n8 hn8 => ?_
  refine nm (Bg.sgn n8 : Int) fun n9 hn9 => ?_
  refine nm (Bg.dig n8.natAbs : List Int) fun l7 hl7 => ?_
  have hl7n := congrArg List.length hl7
  refine nm (Fr.rS ((Fr.FrB n5 l5 n6 l6 ∧ Fr.FrB n9 l7 (1 : Int) l4) ∧ n9 ≠ 0) ((Fr.fq n5 l5 l6) / (Fr.fq n9 l7 l4)) : Int) fun n10 hn10 => ?_
  refine nm (Fr.rD ((Fr.FrB n5 l5 n6 l6 ∧ Fr.FrB n9 l7 (1 : Int) l4) ∧ n9 ≠ 0) ((Fr.fq n5 l5 l6) / (Fr.fq n9 l7 l4)) : List Int) fun l8 hl8 => ?_
  have hl8n := congrArg List.length hl8
  refine nm (Fr.rT ((Fr.FrB n5 l5 n6 l6 ∧ Fr.FrB n9 l7 (1 : Int) l4) ∧ n9 ≠ 0) : Int) fun n11 hn11 => ?_
  refine nm (Fr.rE ((Fr.FrB n5 l5 n6 l6 ∧ Fr.FrB n9 l7 (1 : Int) l4) ∧ n9 ≠ 0) ((Fr.fq n5 l5 l6) / (Fr.fq n9 l7 l4)) : List Int) fun l9 hl9 => ?_
  have hl9n := congrArg List.length hl9
  refine nm (if ¬ (Fr.FrB n5 l5 n6 l6 ∧ Fr.FrB n9 l7 (1 : Int) l4) then (1 : Int) else if n9 = 0 then 15 else 0 : Int) fun n12 hn12 => ?_
  have zd : Fr.Fz n9 l7 1 l4 ((x3.Key - x2.Key : Int) : Rat) := by subst_vars; exact Un.intz _
  have hld := zd.len (Fr.Hb.int (n := x3.Key - x2.Key) (by omega)); have hld1 := hld.1; have hld2 := hld.2
  have hd0 : n9 ≠ 0 := by rw [zd.eqs.1]; intro e; have e1 := Fr.sgn_num.2.1.1 e; have e2 : ((x3.Key - x2.Key : Int) : Rat) = ((0 : Int) : Rat) := e1; rw [Rat.intCast_inj] at e2; omega
  have zq := Fr.Fz.of (And.intro (And.intro zs.rt zd.rt) hd0) hn10 hl8 hn11 hl9
  rw [zs.v, zd.v] at zq
  have hbq := ((hk.hb (k := 1000000) (by omega) (by omega)).sub (Fr.Hb.int (n := x2.Key) (by omega))).div (Fr.Hb.int (n := x3.Key - x2.Key) (by omega))
  have hlq := zq.len hbq; have hlq1 := hlq.1; have hlq2 := hlq.2
  refine V.r [.ld 5 0 true (fun _ => Dat.cells (DFrac.mk (DBig.mk n5 ⟨l5, (G10 4).ss 0⟩) (DBig.mk n6 ⟨l6, (G10 4).ss 1⟩))),.k (pp ((G9 12).b) 0),.ld 4 0 false (fun _ => [iv x3.Key]),.k (pp ((G9 11).b) 0),.ld 3 0 false (fun _ => [iv x2.Key]),.ar (x3.Key - x2.Key) n8 hn8 (by omega) (by omega),.ct g0 6 46 false [] [] [] (fun _ G => fint_ctv n8 (by omega) n9 hn9 l7 hl7 l4 hl4),.ct g0 7 40 false [] [] [(kf true (.f 5) l5 (fun _ => (G10 4).ss 0)).a, (kf true (.f 6) l6 (fun _ => (G10 4).ss 1)).a, (kf true (.g 6 0) l7 (fun G => (G 6).ss 0)).a, (kf true (.g 6 1) l4 (fun G => (G 6).ss 1)).a] (fun _ G => fdiv_ctv n5 l5 ((G10 4).ss 0) n6 l6 ((G10 4).ss 1) n9 l7 ((G 6).ss 0) (1 : Int) l4 ((G 6).ss 1) (by omega) (by omega) (by omega) (by omega) n10 hn10 l8 hl8 n11 hn11 l9 hl9 n12 hn12),.v fun G => .tuple #[ag (DFrac.mk (DBig.mk n10 ⟨l8, (G 7).ss 0⟩) (DBig.mk n11 ⟨l9, (G 7).ss 1⟩)), iv n12],.v fun G => ag (DFrac.mk (DBig.mk n10 ⟨l8, (G 7).ss 0⟩) (DBig.mk n11 ⟨l9, (G 7).ss 1⟩)),.k (iv n12),.st 5 (fun G => .blk ((G10 8).b) (ca (DFrac.mk (DBig.mk n10 ⟨l8, (G 7).ss 0⟩) (DBig.mk n11 ⟨l9, (G 7).ss 1⟩))) 30)] fun _ _ G11 kw11 => ?_
  intro S_ s_
  obtain ⟨⟨kl10, -⟩, ⟨kl11, -⟩, ⟨kl12, -⟩, ⟨kl13, -⟩, -⟩ : Lq l7 (((G11 6).ss 0).v) ∧ Lq l4 (((G11 6).ss 1).v) ∧ Lq l8 (((G11 7).ss 0).v) ∧ Lq l9 (((G11 7).ss 1).v) ∧ True := kn kw11 (by kernel_rfl)
  clear kw11
  refine nm (x3.Value - x2.Value : Int) fun n13 hn13 => ?_
  refine nm (Fr.rS (True) ((n13 : Rat) * Tb.uf t_Unit) : Int) fun n14 hn14 => ?_
  refine nm (Fr.rD (True) ((n13 : Rat) * Tb.uf t_Unit) : List Int) fun l10 hl10 => ?_
  have hl10n := congrArg List.length hl10
  refine nm (Fr.rT (True) : Int) fun n15 hn15 => ?_
  refine nm (Fr.rE (True) ((n13 : Rat) * Tb.uf t_Unit) : List Int) fun l11 hl11 => ?_
  have hl11n := congrArg List.length hl11
  refine nm (Fr.rS (Fr.FrB n10 l8 n11 l9 ∧ Fr.FrB n14 l10 n15 l11) ((Fr.fq n10 l8 l9) * (Fr.fq n14 l10 l11)) : Int) fun n16 hn16 => ?_
  refine nm (Fr.rD (Fr.FrB n10 l8 n11 l9 ∧ Fr.FrB n14 l10 n15 l11) ((Fr.fq n10 l8 l9) * (Fr.fq n14 l10 l11)) : List Int) fun l12 hl12 => ?_
  have hl12n := congrArg List.length hl12
  refine nm (Fr.rT (Fr.FrB n10 l8 n11 l9 ∧ Fr.FrB n14 l10 n15 l11) : Int) fun n17 hn17 => ?_
  refine nm (Fr.rE (Fr.FrB n10 l8 n11 l9 ∧ Fr.FrB n14 l10 n15 l11) ((Fr.fq n10 l8 l9) * (Fr.fq n14 l10 l11)) : List Int) fun l13 hl13 => ?_
  have hl13n := congrArg List.length hl13
  refine nm (if ¬ (Fr.FrB n10 l8 n11 l9 ∧ Fr.FrB n14 l10 n15 l11) then (1 : Int) else 0 : Int) fun n18 hn18 => ?_
  have zw := Fr.Fz.of True.intro hn14 hl10 hn15 hl11
  have hl_zw := zw.len (Tb.worth_hb hu (n := n13) (by omega)); have hl1_zw := hl_zw.1; have hl2_zw := hl_zw.2
  rw [hn13] at zw
  have zr := Fr.Fz.of (And.intro zq.rt zw.rt) hn16 hl12 hn17 hl13
  rw [zq.v, zw.v] at zr
  have hbr := hbq.mul (Tb.worth_hb hu (n := x3.Value - x2.Value) (by omega))
  have hlr := zr.len hbr; have hlr1 := hlr.1; have hlr2 := hlr.2
  refine V.r [.ld 5 0 true (fun _ => Dat.cells (DFrac.mk (DBig.mk n10 ⟨l8, (G11 7).ss 0⟩) (DBig.mk n11 ⟨l9, (G11 7).ss 1⟩))),.ld 0 0 true (fun _ => Dat.cells (DTable.mk t_Name t_Unit ⟨t_Rows, t_Rowss⟩)),.k (pp ((G9 12).b) 1),.ld 4 1 false (fun _ => [iv x3.Value]),.k (pp ((G9 11).b) 1),.ld 3 1 false (fun _ => [iv x2.Value]),.ar (x3.Value - x2.Value) n13 hn13 (by omega) (by omega),.ct g0 7 67 false [] [] [(kf false (.f 0) t_Rows (fun _ => t_Rowss)).a] (fun _ G => tworth_ctv t_Name t_Unit t_Rows t_Rowss n13 hu (by omega) (by omega) n14 hn14 l10 hl10 n15 hn15 l11 hl11),.ct g0 8 20 false [] [] [(kf true (.f 9) l8 (fun _ => (G11 7).ss 0)).a, (kf true (.f 10) l9 (fun _ => (G11 7).ss 1)).a, (kf true (.g 7 0) l10 (fun G => (G 7).ss 0)).a, (kf true (.g 7 1) l11 (fun G => (G 7).ss 1)).a] (fun _ G => fmul_ctv n10 l8 ((G11 7).ss 0) n11 l9 ((G11 7).ss 1) n14 l10 ((G 7).ss 0) n15 l11 ((G 7).ss 1) (by omega) (by omega) (by omega) (by omega) n16 hn16 l12 hl12 n17 hn17 l13 hl13 n18 hn18),.v fun G => .tuple #[ag (DFrac.mk (DBig.mk n16 ⟨l12, (G 8).ss 0⟩) (DBig.mk n17 ⟨l13, (G 8).ss 1⟩)), iv n18],.v fun G => ag (DFrac.mk (DBig.mk n16 ⟨l12, (G 8).ss 0⟩) (DBig.mk n17 ⟨l13, (G 8).ss 1⟩)),.k (iv n18),.nb 12 6 (fun b => pp b 0) 30 (fun _ => ca (DFrac.mk (DBig.mk 0 ⟨[], {}⟩) (DBig.mk 0 ⟨[], {}⟩))),.st 6 (fun G => .blk ((G 12).b) (ca (DFrac.mk (DBig.mk n16 ⟨l12, (G 8).ss 0⟩) (DBig.mk n17 ⟨l13, (G 8).ss 1⟩))) 30),.k (iv n18)] fun _ _ G12 kw12 => ?_
  intro S_ s_
  obtain ⟨⟨kl14, -⟩, ⟨kl15, -⟩, ⟨kl16, -⟩, ⟨kl17, -⟩, -⟩ : Lq l10 (((G12 7).ss 0).v) ∧ Lq l11 (((G12 7).ss 1).v) ∧ Lq l12 (((G12 8).ss 0).v) ∧ Lq l13 (((G12 8).ss 1).v) ∧ True := kn kw12 (by kernel_rfl)
  clear kw12
  refine nm (Fr.rS (True) ((x2.Value : Rat) * Tb.uf t_Unit) : Int) fun n19 hn19 => ?_
  refine nm (Fr.rD (True) ((x2.Value : Rat) * Tb.uf t_Unit) : List Int) fun l14 hl14 => ?_
  have hl14n := congrArg List.length hl14
  refine nm (Fr.rE (True) ((x2.Value : Rat) * Tb.uf t_Unit) : List Int) fun l15 hl15 => ?_
  have hl15n := congrArg List.length hl15
  refine nm (Fr.rS (Fr.FrB n19 l14 n15 l15 ∧ Fr.FrB n16 l12 n17 l13) ((Fr.fq n19 l14 l15) + (Fr.fq n16 l12 l13)) : Int) fun n20 hn20 => ?_
  refine nm (Fr.rD (Fr.FrB n19 l14 n15 l15 ∧ Fr.FrB n16 l12 n17 l13) ((Fr.fq n19 l14 l15) + (Fr.fq n16 l12 l13)) : List Int) fun l16 hl16 => ?_
  have hl16n := congrArg List.length hl16
  refine nm (Fr.rT (Fr.FrB n19 l14 n15 l15 ∧ Fr.FrB n16 l12 n17 l13) : Int) fun n21 hn21 => ?_
  refine nm (Fr.rE (Fr.FrB n19 l14 n15 l15 ∧ Fr.FrB n16 l12 n17 l13) ((Fr.fq n19 l14 l15) + (Fr.fq n16 l12 l13)) : List Int) fun l17 hl17 => ?_
  have hl17n := congrArg List.length hl17
  refine nm (if ¬ (Fr.FrB n19 l14 n15 l15 ∧ Fr.FrB n16 l12 n17 l13) then (1 : Int) else 0 : Int) fun n22 hn22 => ?_
  have zv := Fr.Fz.of True.intro hn19 hl14 hn15 hl15
  have hl_zv := zv.len (Tb.worth_hb hu (n := x2.Value) (by omega)); have hl1_zv := hl_zv.1; have hl2_zv := hl_zv.2
  have zt := Fr.Fz.of (And.intro zv.rt zr.rt) hn20 hl16 hn21 hl17
  rw [zv.v, zr.v] at zt
  have hlg : (x2.Value : Rat) * Tb.uf t_Unit + ((Fr.fq key_P_Sign key_P_Digits key_Q_Digits) - (x2.Key : Rat)) / ((x3.Key - x2.Key : Int) : Rat) * (((x3.Value - x2.Value : Int) : Rat) * Tb.uf t_Unit) = (Tb.lin t_Unit t_Rows (Fr.fq key_P_Sign key_P_Digits key_Q_Digits)).getD 0 := by rw [hlin]; rfl
  refine V.r [.ld 0 0 true (fun _ => Dat.cells (DTable.mk t_Name t_Unit ⟨t_Rows, t_Rowss⟩)),.k (pp ((G9 11).b) 1),.ld 3 1 false (fun _ => [iv x2.Value]),.ct g0 3 67 false [] [] [(kf false (.f 0) t_Rows (fun _ => t_Rowss)).a] (fun _ G => tworth_ctv t_Name t_Unit t_Rows t_Rowss x2.Value hu (by omega) (by omega) n19 hn19 l14 hl14 n15 hn15 l15 hl15),.ld 6 0 true (fun _ => Dat.cells (DFrac.mk (DBig.mk n16 ⟨l12, (G12 8).ss 0⟩) (DBig.mk n17 ⟨l13, (G12 8).ss 1⟩))),.ct g0 5 33 false [] [] [(kf true (.g 3 0) l14 (fun G => (G 3).ss 0)).a, (kf true (.g 3 1) l15 (fun G => (G 3).ss 1)).a, (kf true (.f 13) l12 (fun _ => (G12 8).ss 0)).a, (kf true (.f 14) l13 (fun _ => (G12 8).ss 1)).a] (fun _ G => fadd_ctv n19 l14 ((G 3).ss 0) n15 l15 ((G 3).ss 1) n16 l12 ((G12 8).ss 0) n17 l13 ((G12 8).ss 1) (by omega) (by omega) (by omega) (by omega) n20 hn20 l16 hl16 n21 hn21 l17 hl17 n22 hn22),.v fun G => .tuple #[ag (DFrac.mk (DBig.mk n20 ⟨l16, (G 5).ss 0⟩) (DBig.mk n21 ⟨l17, (G 5).ss 1⟩)), iv n22],.v fun G => ag (DFrac.mk (DBig.mk n20 ⟨l16, (G 5).ss 0⟩) (DBig.mk n21 ⟨l17, (G 5).ss 1⟩)),.k (iv n22),.nb 9 7 (fun b => pp b 0) 30 (fun _ => ca (DFrac.mk (DBig.mk 0 ⟨[], {}⟩) (DBig.mk 0 ⟨[], {}⟩))),.st 7 (fun G => .blk ((G 9).b) (ca (DFrac.mk (DBig.mk n20 ⟨l16, (G 5).ss 0⟩) (DBig.mk n21 ⟨l17, (G 5).ss 1⟩))) 30),.k (iv n22)] fun _ _ G13 kw13 => ?_
  intro S_ s_
  obtain ⟨⟨kl18, -⟩, ⟨kl19, -⟩, ⟨kl20, -⟩, ⟨kl21, -⟩, -⟩ : Lq l14 (((G13 3).ss 0).v) ∧ Lq l15 (((G13 3).ss 1).v) ∧ Lq l16 (((G13 5).ss 0).v) ∧ Lq l17 (((G13 5).ss 1).v) ∧ True := kn kw13 (by kernel_rfl)
  clear kw13
  refine V.g [.ld 7 0 true (fun _ => Dat.cells (DFrac.mk (DBig.mk n20 ⟨l16, (G13 5).ss 0⟩) (DBig.mk n21 ⟨l17, (G13 5).ss 1⟩))),.st 2 (fun _ => .blk ((G1 2).b) (ca (DFrac.mk (DBig.mk n20 ⟨l16, (G13 5).ss 0⟩) (DBig.mk n21 ⟨l17, (G13 5).ss 1⟩))) 30),.k (iv 0)] fun _ _ G14 => ?_
  intro S_ s_
  have e1 : l16 = Fr.rD ((Tb.RtT t_Name t_Unit t_Rows ∧ Fr.FrB key_P_Sign key_P_Digits key_Q_Sign key_Q_Digits) ∧ (Tb.lin t_Unit t_Rows (Fr.fq key_P_Sign key_P_Digits key_Q_Digits)).isSome = true) ((Tb.lin t_Unit t_Rows (Fr.fq key_P_Sign key_P_Digits key_Q_Digits)).getD 0) := by exact (Fr.Fz.ret zt ⟨hP, by rw [hlin]; rfl⟩ (hlg)).2.1
  subst e1
  have e3 : l17 = Fr.rE ((Tb.RtT t_Name t_Unit t_Rows ∧ Fr.FrB key_P_Sign key_P_Digits key_Q_Sign key_Q_Digits) ∧ (Tb.lin t_Unit t_Rows (Fr.fq key_P_Sign key_P_Digits key_Q_Digits)).isSome = true) ((Tb.lin t_Unit t_Rows (Fr.fq key_P_Sign key_P_Digits key_Q_Digits)).getD 0) := by exact (Fr.Fz.ret zt ⟨hP, by rw [hlin]; rfl⟩ (hlg)).2.2.2
  subst e3
  have e0 : n20 = Fr.rS ((Tb.RtT t_Name t_Unit t_Rows ∧ Fr.FrB key_P_Sign key_P_Digits key_Q_Sign key_Q_Digits) ∧ (Tb.lin t_Unit t_Rows (Fr.fq key_P_Sign key_P_Digits key_Q_Digits)).isSome = true) ((Tb.lin t_Unit t_Rows (Fr.fq key_P_Sign key_P_Digits key_Q_Digits)).getD 0) := by exact (Fr.Fz.ret zt ⟨hP, by rw [hlin]; rfl⟩ (hlg)).1
  have e2 : n21 = Fr.rT ((Tb.RtT t_Name t_Unit t_Rows ∧ Fr.FrB key_P_Sign key_P_Digits key_Q_Sign key_Q_Digits) ∧ (Tb.lin t_Unit t_Rows (Fr.fq key_P_Sign key_P_Digits key_Q_Digits)).isSome = true) := by exact (Fr.Fz.ret zt ⟨hP, by rw [hlin]; rfl⟩ (hlg)).2.2.1
  have e4 : (0 : Int) = if ¬ (Tb.RtT t_Name t_Unit t_Rows ∧ Fr.FrB key_P_Sign key_P_Digits key_Q_Sign key_Q_Digits) then (1 : Int) else if (Tb.lin t_Unit t_Rows (Fr.fq key_P_Sign key_P_Digits key_Q_Digits)).isSome = true then 0 else 4 := by rw [if_neg (fun h => h hP), hlin]; rfl
  exact V.ret [2, 0] [(G13 5).ss 0, (G13 5).ss 1] [fun _ => {}, fun _ => {}] [] [17, 18] [] (.tuple #[ag (DFrac.mk (DBig.mk n20 ⟨(Fr.rD ((Tb.RtT t_Name t_Unit t_Rows ∧ Fr.FrB key_P_Sign key_P_Digits key_Q_Sign key_Q_Digits) ∧ (Tb.lin t_Unit t_Rows (Fr.fq key_P_Sign key_P_Digits key_Q_Digits)).isSome = true) ((Tb.lin t_Unit t_Rows (Fr.fq key_P_Sign key_P_Digits key_Q_Digits)).getD 0)), (G13 5).ss 0⟩) (DBig.mk n21 ⟨(Fr.rE ((Tb.RtT t_Name t_Unit t_Rows ∧ Fr.FrB key_P_Sign key_P_Digits key_Q_Sign key_Q_Digits) ∧ (Tb.lin t_Unit t_Rows (Fr.fq key_P_Sign key_P_Digits key_Q_Digits)).isSome = true) ((Tb.lin t_Unit t_Rows (Fr.fq key_P_Sign key_P_Digits key_Q_Digits)).getD 0)), (G13 5).ss 1⟩)), iv 0]) (fun _ _ => by kernel_rfl) (fun _ _ => (Eq.trans (by kernel_rfl) (cong3 (fun (x0 : Int) (x2 : Int) (x4 : Int) => (.tuple #[.agg #[iv x0, ((G13 5).ss 0).v, iv x2, ((G13 5).ss 1).v], iv x4] : Value)) e0 e2 e4)).trans (by kernel_rfl)) (fun _ _ => trivial)
theorem tline_ctv (t_Name t_Unit : ByteArray) (t_Rows : List DRow) (t_Rowss : SV) (key_P_Sign : Int) (key_P_Digits : List Int) (key_P_Digitss : SV) (key_Q_Sign : Int) (key_Q_Digits : List Int) (key_Q_Digitss : SV) (hs : t_Unit.size ≤ 1000000) (hs2 : t_Name.size ≤ 1000000) (hkeyP : key_P_Digits.length ≤ 1000000) (hkeyQ : key_Q_Digits.length ≤ 1000000) (rv0 : Int) (erv0 : rv0 = Fr.rS ((Tb.RtT t_Name t_Unit t_Rows ∧ Fr.FrB key_P_Sign key_P_Digits key_Q_Sign key_Q_Digits) ∧ (Tb.lin t_Unit t_Rows (Fr.fq key_P_Sign key_P_Digits key_Q_Digits)).isSome = true) ((Tb.lin t_Unit t_Rows (Fr.fq key_P_Sign key_P_Digits key_Q_Digits)).getD 0)) (rv1 : List Int) (erv1 : rv1 = Fr.rD ((Tb.RtT t_Name t_Unit t_Rows ∧ Fr.FrB key_P_Sign key_P_Digits key_Q_Sign key_Q_Digits) ∧ (Tb.lin t_Unit t_Rows (Fr.fq key_P_Sign key_P_Digits key_Q_Digits)).isSome = true) ((Tb.lin t_Unit t_Rows (Fr.fq key_P_Sign key_P_Digits key_Q_Digits)).getD 0)) (rv2 : Int) (erv2 : rv2 = Fr.rT ((Tb.RtT t_Name t_Unit t_Rows ∧ Fr.FrB key_P_Sign key_P_Digits key_Q_Sign key_Q_Digits) ∧ (Tb.lin t_Unit t_Rows (Fr.fq key_P_Sign key_P_Digits key_Q_Digits)).isSome = true)) (rv3 : List Int) (erv3 : rv3 = Fr.rE ((Tb.RtT t_Name t_Unit t_Rows ∧ Fr.FrB key_P_Sign key_P_Digits key_Q_Sign key_Q_Digits) ∧ (Tb.lin t_Unit t_Rows (Fr.fq key_P_Sign key_P_Digits key_Q_Digits)).isSome = true) ((Tb.lin t_Unit t_Rows (Fr.fq key_P_Sign key_P_Digits key_Q_Digits)).getD 0)) (rv4 : Int) (erv4 : rv4 = if ¬ (Tb.RtT t_Name t_Unit t_Rows ∧ Fr.FrB key_P_Sign key_P_Digits key_Q_Sign key_Q_Digits) then (1 : Int) else if (Tb.lin t_Unit t_Rows (Fr.fq key_P_Sign key_P_Digits key_Q_Digits)).isSome = true then 0 else 4) :
    Ct Try.prog 35 #[ag (DTable.mk t_Name t_Unit ⟨t_Rows, t_Rowss⟩), ag (DFrac.mk (DBig.mk key_P_Sign ⟨key_P_Digits, key_P_Digitss⟩) (DBig.mk key_Q_Sign ⟨key_Q_Digits, key_Q_Digitss⟩))] [fs true t_Rows t_Rowss, fs true key_P_Digits key_P_Digitss, fs true key_Q_Digits key_Q_Digitss] [] (fun g => .tuple #[ag (DFrac.mk (DBig.mk rv0 ⟨rv1, (g.ss 0)⟩) (DBig.mk rv2 ⟨rv3, (g.ss 1)⟩)), iv rv4]) (fun g => [fs true rv1 (g.ss 0), fs true rv3 (g.ss 1)]) (fun g => []) (fun g => []) := by
  subst erv0 erv1 erv2 erv3 erv4; exact tline_ct t_Name t_Unit t_Rows t_Rowss key_P_Sign key_P_Digits key_P_Digitss key_Q_Sign key_Q_Digits key_Q_Digitss hs hs2 hkeyP hkeyQ
set_option maxRecDepth 10000 in
theorem tsum_ct (t_Name t_Unit : ByteArray) (t_Rows : List DRow) (t_Rowss : SV) (from_ to : Int) (hs : t_Unit.size ≤ 1000000) (hs2 : t_Name.size ≤ 1000000) :
    Ct Try.prog 34 #[ag (DTable.mk t_Name t_Unit ⟨t_Rows, t_Rowss⟩), iv from_, iv to] [fs true t_Rows t_Rowss] [] (fun g => .tuple #[ag (DFrac.mk (DBig.mk (Fr.rS (Tb.RtT t_Name t_Unit t_Rows) (((Tb.sumR from_ to t_Rows : Int) : Rat) * Tb.uf t_Unit)) ⟨Fr.rD (Tb.RtT t_Name t_Unit t_Rows) (((Tb.sumR from_ to t_Rows : Int) : Rat) * Tb.uf t_Unit), (g.ss 0)⟩) (DBig.mk (Fr.rT (Tb.RtT t_Name t_Unit t_Rows)) ⟨Fr.rE (Tb.RtT t_Name t_Unit t_Rows) (((Tb.sumR from_ to t_Rows : Int) : Rat) * Tb.uf t_Unit), (g.ss 1)⟩)), iv (if Tb.RtT t_Name t_Unit t_Rows then (0 : Int) else 1)]) (fun g => [fs true (Fr.rD (Tb.RtT t_Name t_Unit t_Rows) (((Tb.sumR from_ to t_Rows : Int) : Rat) * Tb.uf t_Unit)) (g.ss 0), fs true (Fr.rE (Tb.RtT t_Name t_Unit t_Rows) (((Tb.sumR from_ to t_Rows : Int) : Rat) * Tb.uf t_Unit)) (g.ss 1)]) (fun g => []) (fun g => []) := by
  refine V.fn mo Try.func34 40 3 (by kernel_rfl) fun w H ε k0 => ?_
  obtain ⟨⟨kl1, -⟩, -⟩ : Lq t_Rows t_Rowss.v ∧ True := kn k0 (by kernel_rfl)
  clear k0
  refine V.g [.nb 0 0 (fun b => pp b 0) 55 (fun _ => ca (DTable.mk t_Name t_Unit ⟨t_Rows, t_Rowss⟩)),.nb 1 1 (fun b => pp b 0) 30 (fun _ => ca (DFrac.mk (DBig.mk 0 ⟨[], {}⟩) (DBig.mk 0 ⟨[], {}⟩))),.k (iv 0)] fun _ _ G1 => ?_
  intro S_ s_
  refine V.g [.ld 0 0 true (fun _ => Dat.cells (DTable.mk t_Name t_Unit ⟨t_Rows, t_Rowss⟩)),.cp g0 1 32 [(kf false (.f 0) t_Rows (fun _ => t_Rowss)).a] (fun _ G => tright_ct t_Name t_Unit t_Rows t_Rowss (by omega) (by omega)),.k (bv (!(decide (Tb.RtT t_Name t_Unit t_Rows))))] fun _ _ G2 => ?_
  intro S_ s_
  refine V.cond (b := !(decide (Tb.RtT t_Name t_Unit t_Rows))) (iNT iDF) (iNF iDT) (by kernel_rfl) (fun q1 => ?_) (fun q2 => ?_)
  · have hN : ¬ Tb.RtT t_Name t_Unit t_Rows := by have hqq := q1; exact hqq
    refine V.g [.k (ag (DFrac.mk (DBig.mk 0 ⟨[], {}⟩) (DBig.mk 0 ⟨[], {}⟩))),.st 1 (fun _ => .blk ((G1 1).b) (ca (DFrac.mk (DBig.mk 0 ⟨[], {}⟩) (DBig.mk 0 ⟨[], {}⟩))) 30),.k (iv 1)] fun _ _ G3 => ?_
    intro S_ s_
    refine V.nilF (α := Int) ?_
    refine V.nilF (α := Int) ?_
    have e1 : ([] : List Int) = Fr.rD (Tb.RtT t_Name t_Unit t_Rows) (((Tb.sumR from_ to t_Rows : Int) : Rat) * Tb.uf t_Unit) := (Fr.Fz.no hN (((Tb.sumR from_ to t_Rows : Int) : Rat) * Tb.uf t_Unit)).2.1
    rw [← e1]
    have e3 : ([] : List Int) = Fr.rE (Tb.RtT t_Name t_Unit t_Rows) (((Tb.sumR from_ to t_Rows : Int) : Rat) * Tb.uf t_Unit) := (Fr.Fz.no hN (((Tb.sumR from_ to t_Rows : Int) : Rat) * Tb.uf t_Unit)).2.2.2
    rw [← e3]
    have e0 : (0 : Int) = Fr.rS (Tb.RtT t_Name t_Unit t_Rows) (((Tb.sumR from_ to t_Rows : Int) : Rat) * Tb.uf t_Unit) := (Fr.Fz.no hN (((Tb.sumR from_ to t_Rows : Int) : Rat) * Tb.uf t_Unit)).1
    have e2 : (0 : Int) = Fr.rT (Tb.RtT t_Name t_Unit t_Rows) := (Fr.Fz.no hN (((Tb.sumR from_ to t_Rows : Int) : Rat) * Tb.uf t_Unit)).2.2.1
    have e4 : (1 : Int) = if Tb.RtT t_Name t_Unit t_Rows then (0 : Int) else 1 := (if_neg hN).symm
    exact V.ret [1, 0] [{}, {}] [fun _ => {}, fun _ => {}] [] [1, 2] [] (.tuple #[ag (DFrac.mk (DBig.mk 0 ⟨([] : List Int), {}⟩) (DBig.mk 0 ⟨([] : List Int), {}⟩)), iv 1]) (fun _ _ => by kernel_rfl) (fun _ _ => (Eq.trans (by kernel_rfl) (cong3 (fun (x0 : Int) (x2 : Int) (x4 : Int) => (.tuple #[.agg #[iv x0, SV.v ({}), iv x2, SV.v ({})], iv x4] : Value)) e0 e2 e4)).trans (by kernel_rfl)) (fun _ _ => trivial)
  have hP : Tb.RtT t_Name t_Unit t_Rows := by have hqq := q2; first | exact hqq | exact Decidable.not_not.1 hqq
  have hso := hP.so; have hxl := hso.2.1; have hu := hP.1.1.1
  refine V.g [.k (iv 0)] fun _ _ G4 => ?_
  intro S_ s_
  refine V.g [.k (pp ((G1 0).b) 2),.ld 0 2 false (fun _ => [t_Rowss.v]),.ln (kf false (.f 0) t_Rows (fun _ => t_Rowss)),.k (iv 0)] fun _ _ G5 => ?_
  intro S_ s_
  refine V.loop (γ := Int × Int) (fun ⟨sum, k0⟩ => ⟨[(1, iv from_), (2, iv to), (3, pp ((G1 0).b) 0), (6, pp ((G1 1).b) 0), (8, iv sum), (16, t_Rowss.v), (17, iv (t_Rows.length : Int)), (18, iv k0)], [fs false t_Rows t_Rowss], [.blk ((G1 0).b) (ca (DTable.mk t_Name t_Unit ⟨t_Rows, t_Rowss⟩)) 55, .blk ((G1 1).b) (ca (DFrac.mk (DBig.mk 0 ⟨[], {}⟩) (DBig.mk 0 ⟨[], {}⟩))) 30, .no]⟩) (fun ⟨sum, k0⟩ => (0 ≤ k0) ∧ (k0 ≤ (t_Rows.length : Int)) ∧ (sum = Tb.sumR from_ to (t_Rows.take k0.toNat)) ∧ (-1099511627776 * k0 ≤ sum ∧ sum ≤ 1099511627776 * k0)) (fun ⟨sum, k0⟩ => ((t_Rows.length : Int) - k0).toNat) (0, 0) (by kernel_rfl) [0] (by kernel_rfl) ?_ ?_
  · refine ⟨?_, ?_, ?_, ?_⟩
    · show 0 ≤ (0 : Int)
      omega
    · show (0 : Int) ≤ (t_Rows.length : Int)
      omega
    · show (0 : Int) = Tb.sumR from_ to (t_Rows.take (0 : Int).toNat)
      rfl
    show -1099511627776 * (0 : Int) ≤ (0 : Int) ∧ (0 : Int) ≤ 1099511627776 * (0 : Int)
    omega
  rintro ⟨sum, k0⟩ hF1 kw6 Z1 hZ1
  have hF1 : (0 ≤ k0) ∧ (k0 ≤ (t_Rows.length : Int)) ∧ (sum = Tb.sumR from_ to (t_Rows.take k0.toNat)) ∧ (-1099511627776 * k0 ≤ sum ∧ sum ≤ 1099511627776 * k0) := hF1
  obtain ⟨hf1, hf2, hf3, hf4⟩ := hF1
  clear kw6
  refine V.g [.k (bv (decide (k0 < (t_Rows.length : Int))))] fun _ _ G6 => ?_
  intro S_ s_
  refine V.cond (b := decide (k0 < (t_Rows.length : Int))) iDT iDF (by kernel_rfl) (fun q3 => ?_) (fun q4 => ?_)
  · refine nm (t_Rows.getD k0.toNat default : DRow) fun x1 hx1 => ?_
    refine V.g [.ix g0 (kf false (.f 0) t_Rows (fun _ => t_Rowss)) k0 (fun _ => ⟨by omega, by omega⟩),.le g0 (kf false (.f 0) t_Rows (fun _ => t_Rowss)) k0 none false x1 hx1 (fun _ => ⟨by omega, by omega⟩) true (fun _ => Dat.cells x1),.nb 2 2 (fun b => pp b 0) 60 (fun _ => ca (DRow.mk 0 0)),.st 2 (fun G => .blk ((G 2).b) (ca x1) 60)] fun _ _ G7 => ?_
    intro S_ s_
    refine nm ((decide (from_ ≤ x1.Key)) && (decide (x1.Key ≤ to)) : Bool) fun p1 hp1 => ?_
    have hk_a : Tb.ky t_Rows k0.toNat = x1.Key := by rw [hx1]; rfl
    have hv_a : Tb.vl t_Rows k0.toNat = x1.Value := by rw [hx1]; rfl
    have hr_a := hso.2.2 k0.toNat (by omega)
    rw [hk_a, hv_a] at hr_a; unfold Tb.inR at hr_a
    refine V.g [.k (pp ((G7 2).b) 0),.ld 2 0 false (fun _ => [iv x1.Key]),.k (iv from_),.k (bv (decide (from_ ≤ x1.Key))),.k (bv (decide (from_ ≤ x1.Key))),.k (pp ((G7 2).b) 0),.ld 2 0 false (fun _ => [iv x1.Key]),.k (iv to),.k (bv (decide (x1.Key ≤ to))),.andn g0 false (decide (from_ ≤ x1.Key)) (decide (x1.Key ≤ to)) p1 hp1] fun _ _ G8 => ?_
    intro S_ s_
    refine V.cond (b := p1) (iN hp1 (iAT iDT iDT)) (iN hp1 (iAF iDF iDF)) (by kernel_rfl) (fun q5 => ?_) (fun q6 => ?_)
    · refine V.g [.k (iv sum),.k (pp ((G7 2).b) 1),.ld 2 1 false (fun _ => [iv x1.Value]),.a (sum + x1.Value) (by omega) (by omega),.k (iv (sum + x1.Value))] fun _ _ G9 => ?_
      intro S_ s_
      refine V.g [.a (k0 + 1) (by omega) (by omega),.k (iv (k0 + 1))] fun _ _ G10 => ?_
      intro S_ s_
      refine V.rnd hZ1 (sum + x1.Value, k0 + 1) [0] (by kernel_rfl) ?_ ?_
      · refine ⟨?_, ?_, ?_, ?_⟩
        · show 0 ≤ (k0 + 1)
          omega
        · show (k0 + 1) ≤ (t_Rows.length : Int)
          omega
        · show (sum + x1.Value) = Tb.sumR from_ to (t_Rows.take (k0 + 1).toNat)
          rw [show (k0 + 1).toNat = k0.toNat + 1 by omega, Tb.sumR_step (by omega), hk_a, hv_a, if_pos q5, ← hf3]
        show -1099511627776 * (k0 + 1) ≤ (sum + x1.Value) ∧ (sum + x1.Value) ≤ 1099511627776 * (k0 + 1)
        omega
      show ((t_Rows.length : Int) - (k0 + 1)).toNat < ((t_Rows.length : Int) - k0).toNat
      omega
    refine V.g [.a (k0 + 1) (by omega) (by omega),.k (iv (k0 + 1))] fun _ _ G11 => ?_
    intro S_ s_
    refine V.rnd hZ1 (sum, k0 + 1) [0] (by kernel_rfl) ?_ ?_
    · refine ⟨?_, ?_, ?_, ?_⟩
      · show 0 ≤ (k0 + 1)
        omega
      · show (k0 + 1) ≤ (t_Rows.length : Int)
        omega
      · show sum = Tb.sumR from_ to (t_Rows.take (k0 + 1).toNat)
        rw [show (k0 + 1).toNat = k0.toNat + 1 by omega, Tb.sumR_step (by omega), hk_a, hv_a, if_neg (by have hqq := q6; omega), ← hf3]; omega
      show -1099511627776 * (k0 + 1) ≤ sum ∧ sum ≤ 1099511627776 * (k0 + 1)
      omega
    show ((t_Rows.length : Int) - (k0 + 1)).toNat < ((t_Rows.length : Int) - k0).toNat
    omega
  refine nm (Fr.rS (True) ((sum : Rat) * Tb.uf t_Unit) : Int) fun n1 hn1 => ?_
  refine nm (Fr.rD (True) ((sum : Rat) * Tb.uf t_Unit) : List Int) fun l1 hl1 => ?_
  have hl1n := congrArg List.length hl1
  refine nm (Fr.rT (True) : Int) fun n2 hn2 => ?_
  refine nm (Fr.rE (True) ((sum : Rat) * Tb.uf t_Unit) : List Int) fun l2 hl2 => ?_
  have hl2n := congrArg List.length hl2
  have hsum : sum = Tb.sumR from_ to t_Rows := by rw [hf3, List.take_of_length_le (by omega)]
  have hsq : (sum : Rat) * Tb.uf t_Unit = ((Tb.sumR from_ to t_Rows : Int) : Rat) * Tb.uf t_Unit := by rw [hsum]
  have zf := Fr.Fz.of True.intro hn1 hl1 hn2 hl2
  have hl_zf := zf.len (Tb.worth_hb hu (n := sum) (by omega)); have hl1_zf := hl_zf.1; have hl2_zf := hl_zf.2
  refine V.r [.ld 0 0 true (fun _ => Dat.cells (DTable.mk t_Name t_Unit ⟨t_Rows, t_Rowss⟩)),.k (iv sum),.ct g0 2 67 false [] [] [(kf false (.f 0) t_Rows (fun _ => t_Rowss)).a] (fun _ G => tworth_ctv t_Name t_Unit t_Rows t_Rowss sum hu (by omega) (by omega) n1 hn1 l1 hl1 n2 hn2 l2 hl2),.st 1 (fun G => .blk ((G1 1).b) (ca (DFrac.mk (DBig.mk n1 ⟨l1, (G 2).ss 0⟩) (DBig.mk n2 ⟨l2, (G 2).ss 1⟩))) 30),.k (iv 0)] fun _ _ G12 kw13 => ?_
  intro S_ s_
  obtain ⟨⟨kl2, -⟩, ⟨kl3, -⟩, -⟩ : Lq l1 (((G12 2).ss 0).v) ∧ Lq l2 (((G12 2).ss 1).v) ∧ True := kn kw13 (by kernel_rfl)
  clear kw13
  have e1 : l1 = Fr.rD (Tb.RtT t_Name t_Unit t_Rows) (((Tb.sumR from_ to t_Rows : Int) : Rat) * Tb.uf t_Unit) := (Fr.Fz.ret zf hP (hsq)).2.1
  subst e1
  have e3 : l2 = Fr.rE (Tb.RtT t_Name t_Unit t_Rows) (((Tb.sumR from_ to t_Rows : Int) : Rat) * Tb.uf t_Unit) := (Fr.Fz.ret zf hP (hsq)).2.2.2
  subst e3
  have e0 : n1 = Fr.rS (Tb.RtT t_Name t_Unit t_Rows) (((Tb.sumR from_ to t_Rows : Int) : Rat) * Tb.uf t_Unit) := (Fr.Fz.ret zf hP (hsq)).1
  have e2 : n2 = Fr.rT (Tb.RtT t_Name t_Unit t_Rows) := (Fr.Fz.ret zf hP (hsq)).2.2.1
  have e4 : (0 : Int) = if Tb.RtT t_Name t_Unit t_Rows then (0 : Int) else 1 := (if_pos hP).symm
  exact V.ret [1, 0] [(G12 2).ss 0, (G12 2).ss 1] [fun _ => {}, fun _ => {}] [] [1, 2] [] (.tuple #[ag (DFrac.mk (DBig.mk n1 ⟨(Fr.rD (Tb.RtT t_Name t_Unit t_Rows) (((Tb.sumR from_ to t_Rows : Int) : Rat) * Tb.uf t_Unit)), (G12 2).ss 0⟩) (DBig.mk n2 ⟨(Fr.rE (Tb.RtT t_Name t_Unit t_Rows) (((Tb.sumR from_ to t_Rows : Int) : Rat) * Tb.uf t_Unit)), (G12 2).ss 1⟩)), iv 0]) (fun _ _ => by kernel_rfl) (fun _ _ => (Eq.trans (by kernel_rfl) (cong3 (fun (x0 : Int) (x2 : Int) (x4 : Int) => (.tuple #[.agg #[iv x0, ((G12 2).ss 0).v, iv x2, ((G12 2).ss 1).v], iv x4] : Value)) e0 e2 e4)).trans (by kernel_rfl)) (fun _ _ => trivial)
theorem tsum_ctv (t_Name t_Unit : ByteArray) (t_Rows : List DRow) (t_Rowss : SV) (from_ to : Int) (hs : t_Unit.size ≤ 1000000) (hs2 : t_Name.size ≤ 1000000) (rv0 : Int) (erv0 : rv0 = Fr.rS (Tb.RtT t_Name t_Unit t_Rows) (((Tb.sumR from_ to t_Rows : Int) : Rat) * Tb.uf t_Unit)) (rv1 : List Int) (erv1 : rv1 = Fr.rD (Tb.RtT t_Name t_Unit t_Rows) (((Tb.sumR from_ to t_Rows : Int) : Rat) * Tb.uf t_Unit)) (rv2 : Int) (erv2 : rv2 = Fr.rT (Tb.RtT t_Name t_Unit t_Rows)) (rv3 : List Int) (erv3 : rv3 = Fr.rE (Tb.RtT t_Name t_Unit t_Rows) (((Tb.sumR from_ to t_Rows : Int) : Rat) * Tb.uf t_Unit)) (rv4 : Int) (erv4 : rv4 = if Tb.RtT t_Name t_Unit t_Rows then (0 : Int) else 1) :
    Ct Try.prog 34 #[ag (DTable.mk t_Name t_Unit ⟨t_Rows, t_Rowss⟩), iv from_, iv to] [fs true t_Rows t_Rowss] [] (fun g => .tuple #[ag (DFrac.mk (DBig.mk rv0 ⟨rv1, (g.ss 0)⟩) (DBig.mk rv2 ⟨rv3, (g.ss 1)⟩)), iv rv4]) (fun g => [fs true rv1 (g.ss 0), fs true rv3 (g.ss 1)]) (fun g => []) (fun g => []) := by
  subst erv0 erv1 erv2 erv3 erv4; exact tsum_ct t_Name t_Unit t_Rows t_Rowss from_ to hs hs2
end Kb
