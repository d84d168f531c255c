/- Texts for the claim, put together: the calculus of regions, its rules, and contracts of the functions that the law reaches. -/
import Derived.Test.YtpnbgdgjgndicaaZvwc
set_option linter.unusedVariables false
set_option linter.unusedSectionVars false
set_option linter.unusedSimpArgs false
namespace Kb
open Go Go.Proofs
set_option maxRecDepth 10000 in
theorem one_ct (a_Sign : Int) (a_Digits : List Int) (a_Digitss : SV) :
    Cp Try.prog 62 #[ag (DBig.mk a_Sign ⟨a_Digits, a_Digitss⟩)] [fs true a_Digits a_Digitss] (bv (decide (Bg.intV a_Sign a_Digits = 1))) := by
  refine V.fn mo Try.func62 15 1 (by kernel_rfl) fun w H ε k0 => ?_
  obtain ⟨⟨kl1, -⟩, -⟩ : Lq a_Digits a_Digitss.v ∧ True := kn k0 (by kernel_rfl)
  clear k0
  refine V.g [.nb 0 0 (fun b => pp b 0) 28 (fun _ => ca (DBig.mk a_Sign ⟨a_Digits, a_Digitss⟩)),.kb false] fun _ _ G1 => ?_
  intro S_ s_
  refine nm (Bg.intV a_Sign a_Digits : Int) fun n1 hn1 => ?_
  refine V.g [.ld 0 0 true (fun _ => Dat.cells (DBig.mk a_Sign ⟨a_Digits, a_Digitss⟩)),.cp g0 1 100 [(kf false (.f 0) a_Digits (fun _ => a_Digitss)).a] (fun _ G => int_ctv a_Sign a_Digits a_Digitss n1 hn1),.k (.tuple #[iv n1, bv (decide (Bg.inI a_Sign a_Digits))]),.k (iv n1),.k (bv (decide (Bg.inI a_Sign a_Digits))),.k (iv n1),.k (bv (decide (Bg.inI a_Sign a_Digits)))] fun _ _ G2 => ?_
  intro S_ s_
  refine nm ((decide (Bg.inI a_Sign a_Digits)) && (decide (n1 = 1)) : Bool) fun p1 hp1 => ?_
  refine V.g [.k (bv (decide (Bg.inI a_Sign a_Digits))),.k (bv (decide (Bg.inI a_Sign a_Digits))),.k (iv n1),.k (bv (decide (n1 = 1))),.andn g0 false (decide (Bg.inI a_Sign a_Digits)) (decide (n1 = 1)) p1 hp1,.k (bv p1)] fun _ _ G3 => ?_
  intro S_ s_
  have e0 : p1 = decide (Bg.intV a_Sign a_Digits = 1) := by
    refine Bool.eq_iff_iff.2 (Iff.trans (iN hp1 (iAT iDT iDT)) (Iff.trans ?_ decide_eq_true_iff.symm))
    subst_vars
    exact ⟨fun h => h.2, fun h => ⟨Classical.byContradiction fun k => by rw [Bg.intV_n k] at h; omega, h⟩⟩
  exact V.ret [0] [] [] [] [] [] (bv p1) (fun _ _ => by kernel_rfl) (fun _ _ => (Eq.trans (by kernel_rfl) (cong1 (fun (x0 : Bool) => (bv x0 : Value)) e0)).trans (by kernel_rfl)) (fun _ _ => trivial)
set_option maxRecDepth 10000 in
theorem right_ct (f_P_Sign : Int) (f_P_Digits : List Int) (f_P_Digitss : SV) (f_Q_Sign : Int) (f_Q_Digits : List Int) (f_Q_Digitss : SV) (hfP : f_P_Digits.length ≤ 274877906944) (hfQ : f_Q_Digits.length ≤ 274877906944) :
    Cp Try.prog 24 #[ag (DFrac.mk (DBig.mk f_P_Sign ⟨f_P_Digits, f_P_Digitss⟩) (DBig.mk f_Q_Sign ⟨f_Q_Digits, f_Q_Digitss⟩))] [fs true f_P_Digits f_P_Digitss, fs true f_Q_Digits f_Q_Digitss] (bv (decide (Fr.FrB f_P_Sign f_P_Digits f_Q_Sign f_Q_Digits))) := by
  refine V.fn mo Try.func24 35 2 (by kernel_rfl) fun w H ε k0 => ?_
  obtain ⟨⟨kl1, -⟩, ⟨kl2, -⟩, -⟩ : Lq f_P_Digits f_P_Digitss.v ∧ Lq f_Q_Digits f_Q_Digitss.v ∧ True := kn k0 (by kernel_rfl)
  clear k0
  refine V.g [.nb 0 0 (fun b => pp b 0) 30 (fun _ => ca (DFrac.mk (DBig.mk f_P_Sign ⟨f_P_Digits, f_P_Digitss⟩) (DBig.mk f_Q_Sign ⟨f_Q_Digits, f_Q_Digitss⟩))),.kb false] fun _ _ G1 => ?_
  intro S_ s_
  refine nm ((!(decide (Bg.RtB f_P_Sign f_P_Digits))) || (!(decide (Bg.RtB f_Q_Sign f_Q_Digits))) : Bool) fun p1 hp1 => ?_
  refine V.g [.k (pp ((G1 0).b) 0),.ld 0 0 true (fun _ => Dat.cells (DBig.mk f_P_Sign ⟨f_P_Digits, f_P_Digitss⟩)),.cp g0 2 60 [(kf false (.f 0) f_P_Digits (fun _ => f_P_Digitss)).a] (fun _ G => bright_ct f_P_Sign f_P_Digits f_P_Digitss),.k (bv (!(decide (Bg.RtB f_P_Sign f_P_Digits)))),.k (bv (!(decide (Bg.RtB f_P_Sign f_P_Digits)))),.k (pp ((G1 0).b) 2),.ld 0 2 true (fun _ => Dat.cells (DBig.mk f_Q_Sign ⟨f_Q_Digits, f_Q_Digitss⟩)),.cp (gF (b := !(decide (Bg.RtB f_P_Sign f_P_Digits))) (iNF iDT)) 7 60 [(kf false (.f 1) f_Q_Digits (fun _ => f_Q_Digitss)).a] (fun hg G => bright_ct f_Q_Sign f_Q_Digits f_Q_Digitss),.k (bv (!(decide (Bg.RtB f_Q_Sign f_Q_Digits)))),.orn g0 false (!(decide (Bg.RtB f_P_Sign f_P_Digits))) (!(decide (Bg.RtB f_Q_Sign f_Q_Digits))) p1 hp1,.k (bv p1),.k (pp ((G1 0).b) 2),.k (pp ((G1 0).b) 2),.ld 0 2 false (fun _ => [iv f_Q_Sign]),.k (bv (!(decide (f_Q_Sign = 1)))),.or g0 false p1 (!(decide (f_Q_Sign = 1)))] fun _ _ G2 => ?_
  intro S_ s_
  refine V.cond (b := p1 || (!(decide (f_Q_Sign = 1)))) (iOT (iN hp1 (iOT (iNT iDF) (iNT iDF))) (iNT iDF)) (iOF (iN hp1 (iOF (iNF iDT) (iNF iDT))) (iNF iDT)) (by kernel_rfl) (fun q1 => ?_) (fun q2 => ?_)
  · refine V.g [.kb false] fun _ _ G3 => ?_
    intro S_ s_
    have e0 : false = decide (Fr.FrB f_P_Sign f_P_Digits f_Q_Sign f_Q_Digits) := by exact (decide_eq_false fun h => by have hqq := q1; rcases hqq with (h1 | h1) | h1; exact h1 h.1; exact h1 h.2.1; exact h1 h.2.2.1).symm
    exact V.ret [0] [] [] [] [] [] (bv false) (fun _ _ => by kernel_rfl) (fun _ _ => (Eq.trans (by kernel_rfl) (cong1 (fun (x0 : Bool) => (bv x0 : Value)) e0)).trans (by kernel_rfl)) (fun _ _ => trivial)
  have hR : (Bg.RtB f_P_Sign f_P_Digits ∧ Bg.RtB f_Q_Sign f_Q_Digits) ∧ f_Q_Sign = 1 := by have hqq := q2; first | exact hqq | exact ⟨⟨Decidable.not_not.1 hqq.1.1, Decidable.not_not.1 hqq.1.2⟩, Decidable.not_not.1 hqq.2⟩
  obtain ⟨⟨hR1, hR2⟩, hR3⟩ := hR
  refine nm (Bg.oS (Bg.RtB f_P_Sign f_P_Digits ∧ Bg.RtB f_Q_Sign f_Q_Digits) ((Nat.gcd (Bg.nv f_P_Digits) (Bg.nv f_Q_Digits) : Int)) : Int) fun n1 hn1 => ?_
  refine nm (Bg.oD (Bg.RtB f_P_Sign f_P_Digits ∧ Bg.RtB f_Q_Sign f_Q_Digits) ((Nat.gcd (Bg.nv f_P_Digits) (Bg.nv f_Q_Digits) : Int)) : List Int) fun l1 hl1 => ?_
  have hl1n := congrArg List.length hl1
  refine nm (if (Bg.RtB f_P_Sign f_P_Digits ∧ Bg.RtB f_Q_Sign f_Q_Digits) then (0 : Int) else 1 : Int) fun n2 hn2 => ?_
  have zg := Fr.Bz.gcd (Fr.RtB.z hR1) (Fr.RtB.z hR2) hn1 hl1
  have hge : n2 = 0 := by rw [hn2]; exact if_pos ⟨hR1, hR2⟩
  have hga : Nat.gcd (Bg.zv f_P_Sign f_P_Digits).natAbs (Bg.zv f_Q_Sign f_Q_Digits).natAbs = Nat.gcd (Bg.nv f_P_Digits) (Bg.nv f_Q_Digits) := by rw [(Fr.RtB.z hR1).nat, (Fr.RtB.z hR2).nat]
  have hgn : ((Nat.gcd (Bg.zv f_P_Sign f_P_Digits).natAbs (Bg.zv f_Q_Sign f_Q_Digits).natAbs : Nat) : Int) = 1 → Nat.gcd (Bg.nv f_P_Digits) (Bg.nv f_Q_Digits) = 1 := fun h => by omega
  have hgm : Nat.gcd (Bg.nv f_P_Digits) (Bg.nv f_Q_Digits) = 1 → ((Nat.gcd (Bg.zv f_P_Sign f_P_Digits).natAbs (Bg.zv f_Q_Sign f_Q_Digits).natAbs : Nat) : Int) = 1 := fun h => by omega
  refine V.r [.k (pp ((G1 0).b) 0),.ld 0 0 true (fun _ => Dat.cells (DBig.mk f_P_Sign ⟨f_P_Digits, f_P_Digitss⟩)),.k (pp ((G1 0).b) 2),.ld 0 2 true (fun _ => Dat.cells (DBig.mk f_Q_Sign ⟨f_Q_Digits, f_Q_Digitss⟩)),.ct g0 4 61 false [] [] [(kf false (.f 0) f_P_Digits (fun _ => f_P_Digitss)).a, (kf false (.f 1) f_Q_Digits (fun _ => f_Q_Digitss)).a] (fun _ G => Gcd_ctv f_P_Sign f_P_Digits f_P_Digitss f_Q_Sign f_Q_Digits f_Q_Digitss (by omega) (by omega) n1 hn1 l1 hl1 n2 hn2),.v fun G => .tuple #[ag (DBig.mk n1 ⟨l1, (G 4).ss 0⟩), iv n2],.v fun G => ag (DBig.mk n1 ⟨l1, (G 4).ss 0⟩),.k (iv n2),.nb 8 1 (fun b => pp b 0) 28 (fun _ => ca (DBig.mk 0 ⟨[], {}⟩)),.st 1 (fun G => .blk ((G 8).b) (ca (DBig.mk n1 ⟨l1, (G 4).ss 0⟩)) 28),.k (iv n2)] fun _ _ G4 kw4 => ?_
  intro S_ s_
  obtain ⟨⟨kl3, -⟩, -⟩ : Lq l1 (((G4 4).ss 0).v) ∧ True := kn kw4 (by kernel_rfl)
  clear kw4
  refine nm ((decide (n2 = 0)) && (decide (Bg.intV n1 l1 = 1)) : Bool) fun p2 hp2 => ?_
  refine V.g [.k (iv n2),.k (bv (decide (n2 = 0))),.k (bv (decide (n2 = 0))),.ld 1 0 true (fun _ => Dat.cells (DBig.mk n1 ⟨l1, (G4 4).ss 0⟩)),.cp (gT (b := decide (n2 = 0)) iDT) 4 62 [(kf true (.f 2) l1 (fun _ => (G4 4).ss 0)).a] (fun hg G => one_ct n1 l1 ((G4 4).ss 0)),.andn g0 false (decide (n2 = 0)) (decide (Bg.intV n1 l1 = 1)) p2 hp2,.k (bv p2)] fun _ _ G5 => ?_
  intro S_ s_
  have e0 : p2 = decide (Fr.FrB f_P_Sign f_P_Digits f_Q_Sign f_Q_Digits) := by
    refine Bool.eq_iff_iff.2 (Iff.trans (iN hp2 (iAT iDT iDT)) (Iff.trans ?_ decide_eq_true_iff.symm))
    rw [Fr.one_is zg, hge]
    constructor
    · rintro ⟨_, h⟩; exact ⟨hR1, hR2, hR3, hgn h⟩
    intro h; exact ⟨rfl, hgm h.2.2.2⟩
  exact V.ret [0] [] [] [] [] [] (bv p2) (fun _ _ => by kernel_rfl) (fun _ _ => (Eq.trans (by kernel_rfl) (cong1 (fun (x0 : Bool) => (bv x0 : Value)) e0)).trans (by kernel_rfl)) (fun _ _ => trivial)
set_option maxRecDepth 10000 in
theorem times_ct (a_Sign : Int) (a_Digits : List Int) (a_Digitss : SV) (b_Sign : Int) (b_Digits : List Int) (b_Digitss : SV) (hla : a_Digits.length ≤ 274877906944) (hlb : b_Digits.length ≤ 274877906944) :
    Ct Try.prog 58 #[ag (DBig.mk a_Sign ⟨a_Digits, a_Digitss⟩), ag (DBig.mk b_Sign ⟨b_Digits, b_Digitss⟩)] [fs true a_Digits a_Digitss, fs true b_Digits b_Digitss] [] (fun g => ag (DBig.mk (Bg.oS (Bg.RtB a_Sign a_Digits ∧ Bg.RtB b_Sign b_Digits) (Bg.zv a_Sign a_Digits * Bg.zv b_Sign b_Digits)) ⟨Bg.oD (Bg.RtB a_Sign a_Digits ∧ Bg.RtB b_Sign b_Digits) (Bg.zv a_Sign a_Digits * Bg.zv b_Sign b_Digits), (g.ss 0)⟩)) (fun g => [fs true (Bg.oD (Bg.RtB a_Sign a_Digits ∧ Bg.RtB b_Sign b_Digits) (Bg.zv a_Sign a_Digits * Bg.zv b_Sign b_Digits)) (g.ss 0)]) (fun g => []) (fun g => []) := by
  refine V.fn mo Try.func58 14 4 (by kernel_rfl) fun w H ε k0 => ?_
  obtain ⟨⟨kl1, -⟩, ⟨kl2, -⟩, -⟩ : Lq a_Digits a_Digitss.v ∧ Lq b_Digits b_Digitss.v ∧ True := kn k0 (by kernel_rfl)
  clear k0
  refine V.g [.nb 0 0 (fun b => pp b 0) 28 (fun _ => ca (DBig.mk a_Sign ⟨a_Digits, a_Digitss⟩)),.nb 1 1 (fun b => pp b 0) 28 (fun _ => ca (DBig.mk b_Sign ⟨b_Digits, b_Digitss⟩)),.nb 2 2 (fun b => pp b 0) 28 (fun _ => ca (DBig.mk 0 ⟨[], {}⟩))] fun _ _ G1 => ?_
  intro S_ s_
  refine nm (Bg.oS (Bg.RtB a_Sign a_Digits ∧ Bg.RtB b_Sign b_Digits) (Bg.zv a_Sign a_Digits * Bg.zv b_Sign b_Digits) : Int) fun n1 hn1 => ?_
  refine nm (Bg.oD (Bg.RtB a_Sign a_Digits ∧ Bg.RtB b_Sign b_Digits) (Bg.zv a_Sign a_Digits * Bg.zv b_Sign b_Digits) : List Int) fun l1 hl1 => ?_
  have hl1n := congrArg List.length hl1
  refine nm (if (Bg.RtB a_Sign a_Digits ∧ Bg.RtB b_Sign b_Digits) then (0 : Int) else 1 : Int) fun n2 hn2 => ?_
  refine V.r [.ld 0 0 true (fun _ => Dat.cells (DBig.mk a_Sign ⟨a_Digits, a_Digitss⟩)),.ld 1 0 true (fun _ => Dat.cells (DBig.mk b_Sign ⟨b_Digits, b_Digitss⟩)),.ct g0 2 95 false [] [] [(kf false (.f 0) a_Digits (fun _ => a_Digitss)).a, (kf false (.f 1) b_Digits (fun _ => b_Digitss)).a] (fun _ G => Mul_ctv a_Sign a_Digits a_Digitss b_Sign b_Digits b_Digitss (by omega) (by omega) n1 hn1 l1 hl1 n2 hn2),.v fun G => .tuple #[ag (DBig.mk n1 ⟨l1, (G 2).ss 0⟩), iv n2],.v fun G => ag (DBig.mk n1 ⟨l1, (G 2).ss 0⟩),.k (iv n2),.nb 6 3 (fun b => pp b 0) 28 (fun _ => ca (DBig.mk 0 ⟨[], {}⟩)),.st 3 (fun G => .blk ((G 6).b) (ca (DBig.mk n1 ⟨l1, (G 2).ss 0⟩)) 28),.k (iv n2)] fun _ _ G2 kw2 => ?_
  intro S_ s_
  obtain ⟨⟨kl3, -⟩, -⟩ : Lq l1 (((G2 2).ss 0).v) ∧ True := kn kw2 (by kernel_rfl)
  clear kw2
  refine V.g [.ld 3 0 true (fun _ => Dat.cells (DBig.mk n1 ⟨l1, (G2 2).ss 0⟩)),.st 2 (fun _ => .blk ((G1 2).b) (ca (DBig.mk n1 ⟨l1, (G2 2).ss 0⟩)) 28)] fun _ _ G3 => ?_
  intro S_ s_
  have e1 : l1 = Bg.oD (Bg.RtB a_Sign a_Digits ∧ Bg.RtB b_Sign b_Digits) (Bg.zv a_Sign a_Digits * Bg.zv b_Sign b_Digits) := by rw [hl1]
  subst e1
  have e0 : n1 = Bg.oS (Bg.RtB a_Sign a_Digits ∧ Bg.RtB b_Sign b_Digits) (Bg.zv a_Sign a_Digits * Bg.zv b_Sign b_Digits) := by rw [hn1]
  exact V.ret [2] [(G2 2).ss 0] [fun _ => {}] [] [2] [] (ag (DBig.mk n1 ⟨(Bg.oD (Bg.RtB a_Sign a_Digits ∧ Bg.RtB b_Sign b_Digits) (Bg.zv a_Sign a_Digits * Bg.zv b_Sign b_Digits)), (G2 2).ss 0⟩)) (fun _ _ => by kernel_rfl) (fun _ _ => (Eq.trans (by kernel_rfl) (cong1 (fun (x0 : Int) => (.agg #[iv x0, ((G2 2).ss 0).v] : Value)) e0)).trans (by kernel_rfl)) (fun _ _ => trivial)
theorem times_ctv (a_Sign : Int) (a_Digits : List Int) (a_Digitss : SV) (b_Sign : Int) (b_Digits : List Int) (b_Digitss : SV) (hla : a_Digits.length ≤ 274877906944) (hlb : b_Digits.length ≤ 274877906944) (rv0 : Int) (erv0 : rv0 = Bg.oS (Bg.RtB a_Sign a_Digits ∧ Bg.RtB b_Sign b_Digits) (Bg.zv a_Sign a_Digits * Bg.zv b_Sign b_Digits)) (rv1 : List Int) (erv1 : rv1 = Bg.oD (Bg.RtB a_Sign a_Digits ∧ Bg.RtB b_Sign b_Digits) (Bg.zv a_Sign a_Digits * Bg.zv b_Sign b_Digits)) :
    Ct Try.prog 58 #[ag (DBig.mk a_Sign ⟨a_Digits, a_Digitss⟩), ag (DBig.mk b_Sign ⟨b_Digits, b_Digitss⟩)] [fs true a_Digits a_Digitss, fs true b_Digits b_Digitss] [] (fun g => ag (DBig.mk rv0 ⟨rv1, (g.ss 0)⟩)) (fun g => [fs true rv1 (g.ss 0)]) (fun g => []) (fun g => []) := by
  subst erv0 erv1; exact times_ct a_Sign a_Digits a_Digitss b_Sign b_Digits b_Digitss hla hlb
set_option maxRecDepth 10000 in
theorem new_ct (p_Sign : Int) (p_Digits : List Int) (p_Digitss : SV) (q_Sign : Int) (q_Digits : List Int) (q_Digitss : SV) (hlp : p_Digits.length ≤ 274877906944) (hlq : q_Digits.length ≤ 274877906944) :
    Ct Try.prog 57 #[ag (DBig.mk p_Sign ⟨p_Digits, p_Digitss⟩), ag (DBig.mk q_Sign ⟨q_Digits, q_Digitss⟩)] [fs true p_Digits p_Digitss, fs true q_Digits q_Digitss] [] (fun g => .tuple #[ag (DFrac.mk (DBig.mk (Fr.rS ((Bg.RtB p_Sign p_Digits ∧ Bg.RtB q_Sign q_Digits) ∧ q_Sign ≠ 0) (Rat.divInt (Bg.zv p_Sign p_Digits) (Bg.zv q_Sign q_Digits))) ⟨Fr.rD ((Bg.RtB p_Sign p_Digits ∧ Bg.RtB q_Sign q_Digits) ∧ q_Sign ≠ 0) (Rat.divInt (Bg.zv p_Sign p_Digits) (Bg.zv q_Sign q_Digits)), (g.ss 0)⟩) (DBig.mk (Fr.rT ((Bg.RtB p_Sign p_Digits ∧ Bg.RtB q_Sign q_Digits) ∧ q_Sign ≠ 0)) ⟨Fr.rE ((Bg.RtB p_Sign p_Digits ∧ Bg.RtB q_Sign q_Digits) ∧ q_Sign ≠ 0) (Rat.divInt (Bg.zv p_Sign p_Digits) (Bg.zv q_Sign q_Digits)), (g.ss 1)⟩)), iv (if ¬ (Bg.RtB p_Sign p_Digits ∧ Bg.RtB q_Sign q_Digits) then (1 : Int) else if q_Sign = 0 then 15 else 0)]) (fun g => [fs true (Fr.rD ((Bg.RtB p_Sign p_Digits ∧ Bg.RtB q_Sign q_Digits) ∧ q_Sign ≠ 0) (Rat.divInt (Bg.zv p_Sign p_Digits) (Bg.zv q_Sign q_Digits))) (g.ss 0), fs true (Fr.rE ((Bg.RtB p_Sign p_Digits ∧ Bg.RtB q_Sign q_Digits) ∧ q_Sign ≠ 0) (Rat.divInt (Bg.zv p_Sign p_Digits) (Bg.zv q_Sign q_Digits))) (g.ss 1)]) (fun g => []) (fun g => []) := by
  refine V.fn mo Try.func57 60 8 (by kernel_rfl) fun w H ε k0 => ?_
  obtain ⟨⟨kl1, -⟩, ⟨kl2, -⟩, -⟩ : Lq p_Digits p_Digitss.v ∧ Lq q_Digits q_Digitss.v ∧ True := kn k0 (by kernel_rfl)
  clear k0
  refine V.g [.nb 0 0 (fun b => pp b 0) 28 (fun _ => ca (DBig.mk p_Sign ⟨p_Digits, p_Digitss⟩)),.nb 1 1 (fun b => pp b 0) 28 (fun _ => ca (DBig.mk q_Sign ⟨q_Digits, q_Digitss⟩)),.nb 2 2 (fun b => pp b 0) 30 (fun _ => ca (DFrac.mk (DBig.mk 0 ⟨[], {}⟩) (DBig.mk 0 ⟨[], {}⟩))),.k (iv 0)] fun _ _ G1 => ?_
  intro S_ s_
  refine nm ((!(decide (Bg.RtB p_Sign p_Digits))) || (!(decide (Bg.RtB q_Sign q_Digits))) : Bool) fun p1 hp1 => ?_
  refine V.g [.ld 0 0 true (fun _ => Dat.cells (DBig.mk p_Sign ⟨p_Digits, p_Digitss⟩)),.cp g0 1 60 [(kf false (.f 0) p_Digits (fun _ => p_Digitss)).a] (fun _ G => bright_ct p_Sign p_Digits p_Digitss),.k (bv (!(decide (Bg.RtB p_Sign p_Digits)))),.k (bv (!(decide (Bg.RtB p_Sign p_Digits)))),.ld 1 0 true (fun _ => Dat.cells (DBig.mk q_Sign ⟨q_Digits, q_Digitss⟩)),.cp (gF (b := !(decide (Bg.RtB p_Sign p_Digits))) (iNF iDT)) 5 60 [(kf false (.f 1) q_Digits (fun _ => q_Digitss)).a] (fun hg G => bright_ct q_Sign q_Digits q_Digitss),.k (bv (!(decide (Bg.RtB q_Sign q_Digits)))),.orn g0 false (!(decide (Bg.RtB p_Sign p_Digits))) (!(decide (Bg.RtB q_Sign q_Digits))) p1 hp1,.k (bv p1)] fun _ _ G2 => ?_
  intro S_ s_
  refine V.cond (b := p1) (iN hp1 (iOT (iNT iDF) (iNT iDF))) (iN hp1 (iOF (iNF iDT) (iNF iDT))) (by kernel_rfl) (fun q1 => ?_) (fun q2 => ?_)
  · have hNR : ¬ (Bg.RtB p_Sign p_Digits ∧ Bg.RtB q_Sign q_Digits) := by rintro ⟨h1, h2⟩; rcases q1 with h | h; exact h h1; exact h h2
    refine V.g [.k (ag (DFrac.mk (DBig.mk 0 ⟨[], {}⟩) (DBig.mk 0 ⟨[], {}⟩))),.st 2 (fun _ => .blk ((G1 2).b) (ca (DFrac.mk (DBig.mk 0 ⟨[], {}⟩) (DBig.mk 0 ⟨[], {}⟩))) 30),.k (iv 1)] fun _ _ G3 => ?_
    intro S_ s_
    refine V.nilF (α := Int) ?_
    refine V.nilF (α := Int) ?_
    have e1 : ([] : List Int) = Fr.rD ((Bg.RtB p_Sign p_Digits ∧ Bg.RtB q_Sign q_Digits) ∧ q_Sign ≠ 0) (Rat.divInt (Bg.zv p_Sign p_Digits) (Bg.zv q_Sign q_Digits)) := (Fr.Fz.no (fun h => hNR h.1) (Rat.divInt (Bg.zv p_Sign p_Digits) (Bg.zv q_Sign q_Digits))).2.1
    rw [← e1]
    have e3 : ([] : List Int) = Fr.rE ((Bg.RtB p_Sign p_Digits ∧ Bg.RtB q_Sign q_Digits) ∧ q_Sign ≠ 0) (Rat.divInt (Bg.zv p_Sign p_Digits) (Bg.zv q_Sign q_Digits)) := (Fr.Fz.no (fun h => hNR h.1) (Rat.divInt (Bg.zv p_Sign p_Digits) (Bg.zv q_Sign q_Digits))).2.2.2
    rw [← e3]
    have e0 : (0 : Int) = Fr.rS ((Bg.RtB p_Sign p_Digits ∧ Bg.RtB q_Sign q_Digits) ∧ q_Sign ≠ 0) (Rat.divInt (Bg.zv p_Sign p_Digits) (Bg.zv q_Sign q_Digits)) := (Fr.Fz.no (fun h => hNR h.1) (Rat.divInt (Bg.zv p_Sign p_Digits) (Bg.zv q_Sign q_Digits))).1
    have e2 : (0 : Int) = Fr.rT ((Bg.RtB p_Sign p_Digits ∧ Bg.RtB q_Sign q_Digits) ∧ q_Sign ≠ 0) := (Fr.Fz.no (fun h => hNR h.1) (Rat.divInt (Bg.zv p_Sign p_Digits) (Bg.zv q_Sign q_Digits))).2.2.1
    have e4 : (1 : Int) = if ¬ (Bg.RtB p_Sign p_Digits ∧ Bg.RtB q_Sign q_Digits) then (1 : Int) else if q_Sign = 0 then 15 else 0 := (if_pos hNR).symm
    exact V.ret [2, 0] [{}, {}] [fun _ => {}, fun _ => {}] [] [2, 3] [] (.tuple #[ag (DFrac.mk (DBig.mk 0 ⟨([] : List Int), {}⟩) (DBig.mk 0 ⟨([] : List Int), {}⟩)), iv 1]) (fun _ _ => by kernel_rfl) (fun _ _ => (Eq.trans (by kernel_rfl) (cong3 (fun (x0 : Int) (x2 : Int) (x4 : Int) => (.tuple #[.agg #[iv x0, SV.v ({}), iv x2, SV.v ({})], iv x4] : Value)) e0 e2 e4)).trans (by kernel_rfl)) (fun _ _ => trivial)
  have hRR : (Bg.RtB p_Sign p_Digits ∧ Bg.RtB q_Sign q_Digits) := by first | exact q2 | exact ⟨Decidable.not_not.1 (q2).1, Decidable.not_not.1 (q2).2⟩
  refine V.g [.k (pp ((G1 1).b) 0),.ld 1 0 false (fun _ => [iv q_Sign]),.k (bv (decide (q_Sign = 0))),.k (bv (decide (q_Sign = 0)))] fun _ _ G4 => ?_
  intro S_ s_
  refine V.cond (b := decide (q_Sign = 0)) iDT iDF (by kernel_rfl) (fun q3 => ?_) (fun q4 => ?_)
  · have hz0 : q_Sign = 0 := q3
    refine V.g [.k (ag (DFrac.mk (DBig.mk 0 ⟨[], {}⟩) (DBig.mk 0 ⟨[], {}⟩))),.st 2 (fun _ => .blk ((G1 2).b) (ca (DFrac.mk (DBig.mk 0 ⟨[], {}⟩) (DBig.mk 0 ⟨[], {}⟩))) 30),.k (iv 15)] fun _ _ G5 => ?_
    intro S_ s_
    refine V.nilF (α := Int) ?_
    refine V.nilF (α := Int) ?_
    have e1 : ([] : List Int) = Fr.rD ((Bg.RtB p_Sign p_Digits ∧ Bg.RtB q_Sign q_Digits) ∧ q_Sign ≠ 0) (Rat.divInt (Bg.zv p_Sign p_Digits) (Bg.zv q_Sign q_Digits)) := (Fr.Fz.no (fun h => h.2 hz0) (Rat.divInt (Bg.zv p_Sign p_Digits) (Bg.zv q_Sign q_Digits))).2.1
    rw [← e1]
    have e3 : ([] : List Int) = Fr.rE ((Bg.RtB p_Sign p_Digits ∧ Bg.RtB q_Sign q_Digits) ∧ q_Sign ≠ 0) (Rat.divInt (Bg.zv p_Sign p_Digits) (Bg.zv q_Sign q_Digits)) := (Fr.Fz.no (fun h => h.2 hz0) (Rat.divInt (Bg.zv p_Sign p_Digits) (Bg.zv q_Sign q_Digits))).2.2.2
    rw [← e3]
    have e0 : (0 : Int) = Fr.rS ((Bg.RtB p_Sign p_Digits ∧ Bg.RtB q_Sign q_Digits) ∧ q_Sign ≠ 0) (Rat.divInt (Bg.zv p_Sign p_Digits) (Bg.zv q_Sign q_Digits)) := (Fr.Fz.no (fun h => h.2 hz0) (Rat.divInt (Bg.zv p_Sign p_Digits) (Bg.zv q_Sign q_Digits))).1
    have e2 : (0 : Int) = Fr.rT ((Bg.RtB p_Sign p_Digits ∧ Bg.RtB q_Sign q_Digits) ∧ q_Sign ≠ 0) := (Fr.Fz.no (fun h => h.2 hz0) (Rat.divInt (Bg.zv p_Sign p_Digits) (Bg.zv q_Sign q_Digits))).2.2.1
    have e4 : (15 : Int) = if ¬ (Bg.RtB p_Sign p_Digits ∧ Bg.RtB q_Sign q_Digits) then (1 : Int) else if q_Sign = 0 then 15 else 0 := by rw [if_neg (fun h => h hRR), if_pos hz0]
    exact V.ret [2, 0] [{}, {}] [fun _ => {}, fun _ => {}] [] [2, 3] [] (.tuple #[ag (DFrac.mk (DBig.mk 0 ⟨([] : List Int), {}⟩) (DBig.mk 0 ⟨([] : List Int), {}⟩)), iv 15]) (fun _ _ => by kernel_rfl) (fun _ _ => (Eq.trans (by kernel_rfl) (cong3 (fun (x0 : Int) (x2 : Int) (x4 : Int) => (.tuple #[.agg #[iv x0, SV.v ({}), iv x2, SV.v ({})], iv x4] : Value)) e0 e2 e4)).trans (by kernel_rfl)) (fun _ _ => trivial)
  have hz0 : ¬ q_Sign = 0 := q4
  refine V.g [.k (pp ((G1 1).b) 0),.ld 1 0 false (fun _ => [iv q_Sign]),.k (bv (decide (q_Sign < 0))),.k (bv (decide (q_Sign < 0)))] fun _ _ G6 => ?_
  intro S_ s_
  refine V.cond (b := decide (q_Sign < 0)) iDT iDF (by kernel_rfl) (fun q5 => ?_) (fun q6 => ?_)
  · refine nm (Bg.oS (Bg.RtB p_Sign p_Digits) (-Bg.zv p_Sign p_Digits) : Int) fun n1 hn1 => ?_
    refine nm (Bg.oD (Bg.RtB p_Sign p_Digits) (-Bg.zv p_Sign p_Digits) : List Int) fun l1 hl1 => ?_
    have hl1n := congrArg List.length hl1
    refine nm (Bg.oS (Bg.RtB q_Sign q_Digits) (-Bg.zv q_Sign q_Digits) : Int) fun n2 hn2 => ?_
    refine nm (Bg.oD (Bg.RtB q_Sign q_Digits) (-Bg.zv q_Sign q_Digits) : List Int) fun l2 hl2 => ?_
    have hl2n := congrArg List.length hl2
    obtain ⟨zp, zpl⟩ := Fr.Bz.neg (Fr.RtB.z hRR.1) hn1 hl1
    obtain ⟨zq, zql⟩ := Fr.Bz.neg (Fr.RtB.z hRR.2) hn2 hl2
    have hyp : 0 < -(Bg.zv q_Sign q_Digits) := by have := (Fr.RtB.z hRR.2).neg0 q5; omega
    have hdv : Rat.divInt (-(Bg.zv p_Sign p_Digits)) (-(Bg.zv q_Sign q_Digits)) = Rat.divInt (Bg.zv p_Sign p_Digits) (Bg.zv q_Sign q_Digits) := Rat.neg_divInt_neg _ _
    refine V.r [.ld 0 0 true (fun _ => Dat.cells (DBig.mk p_Sign ⟨p_Digits, p_Digitss⟩)),.ct g0 1 93 false [] [] [(kf false (.f 0) p_Digits (fun _ => p_Digitss)).a] (fun _ G => neg_ctv p_Sign p_Digits p_Digitss (by omega) n1 hn1 l1 hl1),.ld 1 0 true (fun _ => Dat.cells (DBig.mk q_Sign ⟨q_Digits, q_Digitss⟩)),.ct g0 3 93 false [] [] [(kf false (.f 1) q_Digits (fun _ => q_Digitss)).a] (fun _ G => neg_ctv q_Sign q_Digits q_Digitss (by omega) n2 hn2 l2 hl2),.st 0 (fun G => .blk ((G1 0).b) (ca (DBig.mk n1 ⟨l1, (G 1).ss 0⟩)) 28),.st 1 (fun G => .blk ((G1 1).b) (ca (DBig.mk n2 ⟨l2, (G 3).ss 0⟩)) 28)] fun _ _ G7 kw7 => ?_
    intro S_ s_
    obtain ⟨⟨kl3, -⟩, ⟨kl4, -⟩, -⟩ : Lq l1 (((G7 1).ss 0).v) ∧ Lq l2 (((G7 3).ss 0).v) ∧ True := kn kw7 (by kernel_rfl)
    clear kw7
    refine nm (Bg.oS (Bg.RtB n1 l1 ∧ Bg.RtB n2 l2) ((Nat.gcd (Bg.nv l1) (Bg.nv l2) : Int)) : Int) fun n3 hn3 => ?_
    refine nm (Bg.oD (Bg.RtB n1 l1 ∧ Bg.RtB n2 l2) ((Nat.gcd (Bg.nv l1) (Bg.nv l2) : Int)) : List Int) fun l3 hl3 => ?_
    have hl3n := congrArg List.length hl3
    refine nm (if (Bg.RtB n1 l1 ∧ Bg.RtB n2 l2) then (0 : Int) else 1 : Int) fun n4 hn4 => ?_
    have zg := Fr.Bz.gcd zp zq hn3 hl3
    have zgl := Fr.Bz.gcd_len zp zq hyp zg
    have hg0 := Fr.gcd_pos zg hyp
    refine V.r [.ld 0 0 true (fun _ => Dat.cells (DBig.mk n1 ⟨l1, (G7 1).ss 0⟩)),.ld 1 0 true (fun _ => Dat.cells (DBig.mk n2 ⟨l2, (G7 3).ss 0⟩)),.ct g0 2 61 false [] [] [(kf true (.f 2) l1 (fun _ => (G7 1).ss 0)).a, (kf true (.f 3) l2 (fun _ => (G7 3).ss 0)).a] (fun _ G => Gcd_ctv n1 l1 ((G7 1).ss 0) n2 l2 ((G7 3).ss 0) (by omega) (by omega) n3 hn3 l3 hl3 n4 hn4),.v fun G => .tuple #[ag (DBig.mk n3 ⟨l3, (G 2).ss 0⟩), iv n4],.v fun G => ag (DBig.mk n3 ⟨l3, (G 2).ss 0⟩),.k (iv n4),.nb 6 3 (fun b => pp b 0) 28 (fun _ => ca (DBig.mk 0 ⟨[], {}⟩)),.st 3 (fun G => .blk ((G 6).b) (ca (DBig.mk n3 ⟨l3, (G 2).ss 0⟩)) 28),.k (iv n4)] fun _ _ G8 kw8 => ?_
    intro S_ s_
    obtain ⟨⟨kl5, -⟩, -⟩ : Lq l3 (((G8 2).ss 0).v) ∧ True := kn kw8 (by kernel_rfl)
    clear kw8
    refine nm (Bg.oS ((Bg.RtB n1 l1 ∧ Bg.RtB n3 l3) ∧ n3 ≠ 0) (Bg.flo (Bg.zv n1 l1) (Bg.zv n3 l3)) : Int) fun n5 hn5 => ?_
    refine nm (Bg.oD ((Bg.RtB n1 l1 ∧ Bg.RtB n3 l3) ∧ n3 ≠ 0) (Bg.flo (Bg.zv n1 l1) (Bg.zv n3 l3)) : List Int) fun l4 hl4 => ?_
    have hl4n := congrArg List.length hl4
    refine nm (Bg.oS ((Bg.RtB n1 l1 ∧ Bg.RtB n3 l3) ∧ n3 ≠ 0) (Bg.fmo (Bg.zv n1 l1) (Bg.zv n3 l3)) : Int) fun n6 hn6 => ?_
    refine nm (Bg.oD ((Bg.RtB n1 l1 ∧ Bg.RtB n3 l3) ∧ n3 ≠ 0) (Bg.fmo (Bg.zv n1 l1) (Bg.zv n3 l3)) : List Int) fun l5 hl5 => ?_
    have hl5n := congrArg List.length hl5
    refine nm (if ¬ (Bg.RtB n1 l1 ∧ Bg.RtB n3 l3) then (1 : Int) else if n3 = 0 then 15 else 0 : Int) fun n7 hn7 => ?_
    have za := Fr.Bz.div zp zg hg0 hn5 hl4
    refine V.r [.ld 0 0 true (fun _ => Dat.cells (DBig.mk n1 ⟨l1, (G7 1).ss 0⟩)),.ld 3 0 true (fun _ => Dat.cells (DBig.mk n3 ⟨l3, (G8 2).ss 0⟩)),.ct g0 2 94 false [] [] [(kf true (.f 2) l1 (fun _ => (G7 1).ss 0)).a, (kf true (.f 4) l3 (fun _ => (G8 2).ss 0)).a] (fun _ G => Div_ctv n1 l1 ((G7 1).ss 0) n3 l3 ((G8 2).ss 0) (by omega) (by omega) n5 hn5 l4 hl4 n6 hn6 l5 hl5 n7 hn7),.v fun G => .tuple #[ag (DBig.mk n5 ⟨l4, (G 2).ss 0⟩), ag (DBig.mk n6 ⟨l5, (G 2).ss 1⟩), iv n7],.v fun G => ag (DBig.mk n5 ⟨l4, (G 2).ss 0⟩),.v fun G => ag (DBig.mk n6 ⟨l5, (G 2).ss 1⟩),.k (iv n7),.nb 7 4 (fun b => pp b 0) 28 (fun _ => ca (DBig.mk 0 ⟨[], {}⟩)),.nb 8 5 (fun b => pp b 0) 28 (fun _ => ca (DBig.mk 0 ⟨[], {}⟩)),.st 4 (fun G => .blk ((G 7).b) (ca (DBig.mk n5 ⟨l4, (G 2).ss 0⟩)) 28),.st 5 (fun G => .blk ((G 8).b) (ca (DBig.mk n6 ⟨l5, (G 2).ss 1⟩)) 28),.k (iv n7)] fun _ _ G9 kw9 => ?_
    intro S_ s_
    obtain ⟨⟨kl6, -⟩, ⟨kl7, -⟩, -⟩ : Lq l4 (((G9 2).ss 0).v) ∧ Lq l5 (((G9 2).ss 1).v) ∧ True := kn kw9 (by kernel_rfl)
    clear kw9
    refine nm (Bg.oS ((Bg.RtB n2 l2 ∧ Bg.RtB n3 l3) ∧ n3 ≠ 0) (Bg.flo (Bg.zv n2 l2) (Bg.zv n3 l3)) : Int) fun n8 hn8 => ?_
    refine nm (Bg.oD ((Bg.RtB n2 l2 ∧ Bg.RtB n3 l3) ∧ n3 ≠ 0) (Bg.flo (Bg.zv n2 l2) (Bg.zv n3 l3)) : List Int) fun l6 hl6 => ?_
    have hl6n := congrArg List.length hl6
    refine nm (Bg.oS ((Bg.RtB n2 l2 ∧ Bg.RtB n3 l3) ∧ n3 ≠ 0) (Bg.fmo (Bg.zv n2 l2) (Bg.zv n3 l3)) : Int) fun n9 hn9 => ?_
    refine nm (Bg.oD ((Bg.RtB n2 l2 ∧ Bg.RtB n3 l3) ∧ n3 ≠ 0) (Bg.fmo (Bg.zv n2 l2) (Bg.zv n3 l3)) : List Int) fun l7 hl7 => ?_
    have hl7n := congrArg List.length hl7
    refine nm (if ¬ (Bg.RtB n2 l2 ∧ Bg.RtB n3 l3) then (1 : Int) else if n3 = 0 then 15 else 0 : Int) fun n10 hn10 => ?_
    have zb := Fr.Bz.div zq zg hg0 hn8 hl6
    refine V.r [.ld 1 0 true (fun _ => Dat.cells (DBig.mk n2 ⟨l2, (G7 3).ss 0⟩)),.ld 3 0 true (fun _ => Dat.cells (DBig.mk n3 ⟨l3, (G8 2).ss 0⟩)),.ct g0 2 94 false [] [] [(kf true (.f 3) l2 (fun _ => (G7 3).ss 0)).a, (kf true (.f 4) l3 (fun _ => (G8 2).ss 0)).a] (fun _ G => Div_ctv n2 l2 ((G7 3).ss 0) n3 l3 ((G8 2).ss 0) (by omega) (by omega) n8 hn8 l6 hl6 n9 hn9 l7 hl7 n10 hn10),.v fun G => .tuple #[ag (DBig.mk n8 ⟨l6, (G 2).ss 0⟩), ag (DBig.mk n9 ⟨l7, (G 2).ss 1⟩), iv n10],.v fun G => ag (DBig.mk n8 ⟨l6, (G 2).ss 0⟩),.v fun G => ag (DBig.mk n9 ⟨l7, (G 2).ss 1⟩),.k (iv n10),.nb 7 6 (fun b => pp b 0) 28 (fun _ => ca (DBig.mk 0 ⟨[], {}⟩)),.nb 8 7 (fun b => pp b 0) 28 (fun _ => ca (DBig.mk 0 ⟨[], {}⟩)),.st 6 (fun G => .blk ((G 7).b) (ca (DBig.mk n8 ⟨l6, (G 2).ss 0⟩)) 28),.st 7 (fun G => .blk ((G 8).b) (ca (DBig.mk n9 ⟨l7, (G 2).ss 1⟩)) 28),.k (iv n10)] fun _ _ G10 kw10 => ?_
    intro S_ s_
    obtain ⟨⟨kl8, -⟩, ⟨kl9, -⟩, -⟩ : Lq l6 (((G10 2).ss 0).v) ∧ Lq l7 (((G10 2).ss 1).v) ∧ True := kn kw10 (by kernel_rfl)
    clear kw10
    refine V.g [.ld 4 0 true (fun _ => Dat.cells (DBig.mk n5 ⟨l4, (G9 2).ss 0⟩)),.ld 6 0 true (fun _ => Dat.cells (DBig.mk n8 ⟨l6, (G10 2).ss 0⟩)),.k (ag (DFrac.mk (DBig.mk n5 ⟨l4, (G9 2).ss 0⟩) (DBig.mk n8 ⟨l6, (G10 2).ss 0⟩))),.st 2 (fun _ => .blk ((G1 2).b) (ca (DFrac.mk (DBig.mk n5 ⟨l4, (G9 2).ss 0⟩) (DBig.mk n8 ⟨l6, (G10 2).ss 0⟩))) 30),.k (iv 0)] fun _ _ G11 => ?_
    intro S_ s_
    have e1 : l4 = Fr.rD ((Bg.RtB p_Sign p_Digits ∧ Bg.RtB q_Sign q_Digits) ∧ q_Sign ≠ 0) (Rat.divInt (Bg.zv p_Sign p_Digits) (Bg.zv q_Sign q_Digits)) := (Fr.Fz.ret (Fr.new_fin zp zq hyp zg za zb) ⟨hRR, hz0⟩ (hdv)).2.1
    subst e1
    have e3 : l6 = Fr.rE ((Bg.RtB p_Sign p_Digits ∧ Bg.RtB q_Sign q_Digits) ∧ q_Sign ≠ 0) (Rat.divInt (Bg.zv p_Sign p_Digits) (Bg.zv q_Sign q_Digits)) := (Fr.Fz.ret (Fr.new_fin zp zq hyp zg za zb) ⟨hRR, hz0⟩ (hdv)).2.2.2
    subst e3
    have e0 : n5 = Fr.rS ((Bg.RtB p_Sign p_Digits ∧ Bg.RtB q_Sign q_Digits) ∧ q_Sign ≠ 0) (Rat.divInt (Bg.zv p_Sign p_Digits) (Bg.zv q_Sign q_Digits)) := (Fr.Fz.ret (Fr.new_fin zp zq hyp zg za zb) ⟨hRR, hz0⟩ (hdv)).1
    have e2 : n8 = Fr.rT ((Bg.RtB p_Sign p_Digits ∧ Bg.RtB q_Sign q_Digits) ∧ q_Sign ≠ 0) := (Fr.Fz.ret (Fr.new_fin zp zq hyp zg za zb) ⟨hRR, hz0⟩ (hdv)).2.2.1
    have e4 : (0 : Int) = if ¬ (Bg.RtB p_Sign p_Digits ∧ Bg.RtB q_Sign q_Digits) then (1 : Int) else if q_Sign = 0 then 15 else 0 := by rw [if_neg (fun h => h hRR), if_neg hz0]
    exact V.ret [2, 0] [(G9 2).ss 0, (G10 2).ss 0] [fun _ => {}, fun _ => {}] [] [5, 7] [] (.tuple #[ag (DFrac.mk (DBig.mk n5 ⟨(Fr.rD ((Bg.RtB p_Sign p_Digits ∧ Bg.RtB q_Sign q_Digits) ∧ q_Sign ≠ 0) (Rat.divInt (Bg.zv p_Sign p_Digits) (Bg.zv q_Sign q_Digits))), (G9 2).ss 0⟩) (DBig.mk n8 ⟨(Fr.rE ((Bg.RtB p_Sign p_Digits ∧ Bg.RtB q_Sign q_Digits) ∧ q_Sign ≠ 0) (Rat.divInt (Bg.zv p_Sign p_Digits) (Bg.zv q_Sign q_Digits))), (G10 2).ss 0⟩)), iv 0]) (fun _ _ => by kernel_rfl) (fun _ _ => (Eq.trans (by kernel_rfl) (cong3 (fun (x0 : Int) (x2 : Int) (x4 : Int) => (.tuple #[.agg #[iv x0, ((G9 2).ss 0).v, iv x2, ((G10 2).ss 0).v], iv x4] : Value)) e0 e2 e4)).trans (by kernel_rfl)) (fun _ _ => trivial)
  have zp := Fr.RtB.z hRR.1; have zq := Fr.RtB.z hRR.2
  have hyp : 0 < (Bg.zv q_Sign q_Digits) := zq.pos (by omega)
  have hdv : Rat.divInt (Bg.zv p_Sign p_Digits) (Bg.zv q_Sign q_Digits) = Rat.divInt (Bg.zv p_Sign p_Digits) (Bg.zv q_Sign q_Digits) := rfl
  refine nm (Bg.oS (Bg.RtB p_Sign p_Digits ∧ Bg.RtB q_Sign q_Digits) ((Nat.gcd (Bg.nv p_Digits) (Bg.nv q_Digits) : Int)) : Int) fun n11 hn11 => ?_
  refine nm (Bg.oD (Bg.RtB p_Sign p_Digits ∧ Bg.RtB q_Sign q_Digits) ((Nat.gcd (Bg.nv p_Digits) (Bg.nv q_Digits) : Int)) : List Int) fun l8 hl8 => ?_
  have hl8n := congrArg List.length hl8
  refine nm (if (Bg.RtB p_Sign p_Digits ∧ Bg.RtB q_Sign q_Digits) then (0 : Int) else 1 : Int) fun n12 hn12 => ?_
  have zg := Fr.Bz.gcd zp zq hn11 hl8
  have zgl := Fr.Bz.gcd_len zp zq hyp zg
  have hg0 := Fr.gcd_pos zg hyp
  refine V.r [.ld 0 0 true (fun _ => Dat.cells (DBig.mk p_Sign ⟨p_Digits, p_Digitss⟩)),.ld 1 0 true (fun _ => Dat.cells (DBig.mk q_Sign ⟨q_Digits, q_Digitss⟩)),.ct g0 2 61 false [] [] [(kf false (.f 0) p_Digits (fun _ => p_Digitss)).a, (kf false (.f 1) q_Digits (fun _ => q_Digitss)).a] (fun _ G => Gcd_ctv p_Sign p_Digits p_Digitss q_Sign q_Digits q_Digitss (by omega) (by omega) n11 hn11 l8 hl8 n12 hn12),.v fun G => .tuple #[ag (DBig.mk n11 ⟨l8, (G 2).ss 0⟩), iv n12],.v fun G => ag (DBig.mk n11 ⟨l8, (G 2).ss 0⟩),.k (iv n12),.nb 6 3 (fun b => pp b 0) 28 (fun _ => ca (DBig.mk 0 ⟨[], {}⟩)),.st 3 (fun G => .blk ((G 6).b) (ca (DBig.mk n11 ⟨l8, (G 2).ss 0⟩)) 28),.k (iv n12)] fun _ _ G12 kw12 => ?_
  intro S_ s_
  obtain ⟨⟨kl10, -⟩, -⟩ : Lq l8 (((G12 2).ss 0).v) ∧ True := kn kw12 (by kernel_rfl)
  clear kw12
  refine nm (Bg.oS ((Bg.RtB p_Sign p_Digits ∧ Bg.RtB n11 l8) ∧ n11 ≠ 0) (Bg.flo (Bg.zv p_Sign p_Digits) (Bg.zv n11 l8)) : Int) fun n13 hn13 => ?_
  refine nm (Bg.oD ((Bg.RtB p_Sign p_Digits ∧ Bg.RtB n11 l8) ∧ n11 ≠ 0) (Bg.flo (Bg.zv p_Sign p_Digits) (Bg.zv n11 l8)) : List Int) fun l9 hl9 => ?_
  have hl9n := congrArg List.length hl9
  refine nm (Bg.oS ((Bg.RtB p_Sign p_Digits ∧ Bg.RtB n11 l8) ∧ n11 ≠ 0) (Bg.fmo (Bg.zv p_Sign p_Digits) (Bg.zv n11 l8)) : Int) fun n14 hn14 => ?_
  refine nm (Bg.oD ((Bg.RtB p_Sign p_Digits ∧ Bg.RtB n11 l8) ∧ n11 ≠ 0) (Bg.fmo (Bg.zv p_Sign p_Digits) (Bg.zv n11 l8)) : List Int) fun l10 hl10 => ?_
  have hl10n := congrArg List.length hl10
  refine nm (if ¬ (Bg.RtB p_Sign p_Digits ∧ Bg.RtB n11 l8) then (1 : Int) else if n11 = 0 then 15 else 0 : Int) fun n15 hn15 => ?_
  have za := Fr.Bz.div zp zg hg0 hn13 hl9
  refine V.r [.ld 0 0 true (fun _ => Dat.cells (DBig.mk p_Sign ⟨p_Digits, p_Digitss⟩)),.ld 3 0 true (fun _ => Dat.cells (DBig.mk n11 ⟨l8, (G12 2).ss 0⟩)),.ct g0 2 94 false [] [] [(kf false (.f 0) p_Digits (fun _ => p_Digitss)).a, (kf true (.f 2) l8 (fun _ => (G12 2).ss 0)).a] (fun _ G => Div_ctv p_Sign p_Digits p_Digitss n11 l8 ((G12 2).ss 0) (by omega) (by omega) n13 hn13 l9 hl9 n14 hn14 l10 hl10 n15 hn15),.v fun G => .tuple #[ag (DBig.mk n13 ⟨l9, (G 2).ss 0⟩), ag (DBig.mk n14 ⟨l10, (G 2).ss 1⟩), iv n15],.v fun G => ag (DBig.mk n13 ⟨l9, (G 2).ss 0⟩),.v fun G => ag (DBig.mk n14 ⟨l10, (G 2).ss 1⟩),.k (iv n15),.nb 7 4 (fun b => pp b 0) 28 (fun _ => ca (DBig.mk 0 ⟨[], {}⟩)),.nb 8 5 (fun b => pp b 0) 28 (fun _ => ca (DBig.mk 0 ⟨[], {}⟩)),.st 4 (fun G => .blk ((G 7).b) (ca (DBig.mk n13 ⟨l9, (G 2).ss 0⟩)) 28),.st 5 (fun G => .blk ((G 8).b) (ca (DBig.mk n14 ⟨l10, (G 2).ss 1⟩)) 28),.k (iv n15)] fun _ _ G13 kw13 => ?_
  intro S_ s_
  obtain ⟨⟨kl11, -⟩, ⟨kl12, -⟩, -⟩ : Lq l9 (((G13 2).ss 0).v) ∧ Lq l10 (((G13 2).ss 1).v) ∧ True := kn kw13 (by kernel_rfl)
  clear kw13
  refine nm (Bg.oS ((Bg.RtB q_Sign q_Digits ∧ Bg.RtB n11 l8) ∧ n11 ≠ 0) (Bg.flo (Bg.zv q_Sign q_Digits) (Bg.zv n11 l8)) : Int) fun n16 hn16 => ?_
  refine nm (Bg.oD ((Bg.RtB q_Sign q_Digits ∧ Bg.RtB n11 l8) ∧ n11 ≠ 0) (Bg.flo (Bg.zv q_Sign q_Digits) (Bg.zv n11 l8)) : List Int) fun l11 hl11 => ?_
  have hl11n := congrArg List.length hl11
  refine nm (Bg.oS ((Bg.RtB q_Sign q_Digits ∧ Bg.RtB n11 l8) ∧ n11 ≠ 0) (Bg.fmo (Bg.zv q_Sign q_Digits) (Bg.zv n11 l8)) : Int) fun n17 hn17 => ?_
  refine nm (Bg.oD ((Bg.RtB q_Sign q_Digits ∧ Bg.RtB n11 l8) ∧ n11 ≠ 0) (Bg.fmo (Bg.zv q_Sign q_Digits) (Bg.zv n11 l8)) : List Int) fun l12 hl12 => ?_
  have hl12n := congrArg List.length hl12
  refine nm (if ¬ (Bg.RtB q_Sign q_Digits ∧ Bg.RtB n11 l8) then (1 : Int) else if n11 = 0 then 15 else 0 : Int) fun n18 hn18 => ?_
  have zb := Fr.Bz.div zq zg hg0 hn16 hl11
  refine V.r [.ld 1 0 true (fun _ => Dat.cells (DBig.mk q_Sign ⟨q_Digits, q_Digitss⟩)),.ld 3 0 true (fun _ => Dat.cells (DBig.mk n11 ⟨l8, (G12 2).ss 0⟩)),.ct g0 2 94 false [] [] [(kf false (.f 1) q_Digits (fun _ => q_Digitss)).a, (kf true (.f 2) l8 (fun _ => (G12 2).ss 0)).a] (fun _ G => Div_ctv q_Sign q_Digits q_Digitss n11 l8 ((G12 2).ss 0) (by omega) (by omega) n16 hn16 l11 hl11 n17 hn17 l12 hl12 n18 hn18),.v fun G => .tuple #[ag (DBig.mk n16 ⟨l11, (G 2).ss 0⟩), ag (DBig.mk n17 ⟨l12, (G 2).ss 1⟩), iv n18],.v fun G => ag (DBig.mk n16 ⟨l11, (G 2).ss 0⟩),.v fun G => ag (DBig.mk n17 ⟨l12, (G 2).ss 1⟩),.k (iv n18),.nb 7 6 (fun b => pp b 0) 28 (fun _ => ca (DBig.mk 0 ⟨[], {}⟩)),.nb 8 7 (fun b => pp b 0) 28 (fun _ => ca (DBig.mk 0 ⟨[], {}⟩)),.st 6 (fun G => .blk ((G 7).b) (ca (DBig.mk n16 ⟨l11, (G 2).ss 0⟩)) 28),.st 7 (fun G => .blk ((G 8).b) (ca (DBig.mk n17 ⟨l12, (G 2).ss 1⟩)) 28),.k (iv n18)] fun _ _ G14 kw14 => ?_
  intro S_ s_
  obtain ⟨⟨kl13, -⟩, ⟨kl14, -⟩, -⟩ : Lq l11 (((G14 2).ss 0).v) ∧ Lq l12 (((G14 2).ss 1).v) ∧ True := kn kw14 (by kernel_rfl)
  clear kw14
  refine V.g [.ld 4 0 true (fun _ => Dat.cells (DBig.mk n13 ⟨l9, (G13 2).ss 0⟩)),.ld 6 0 true (fun _ => Dat.cells (DBig.mk n16 ⟨l11, (G14 2).ss 0⟩)),.k (ag (DFrac.mk (DBig.mk n13 ⟨l9, (G13 2).ss 0⟩) (DBig.mk n16 ⟨l11, (G14 2).ss 0⟩))),.st 2 (fun _ => .blk ((G1 2).b) (ca (DFrac.mk (DBig.mk n13 ⟨l9, (G13 2).ss 0⟩) (DBig.mk n16 ⟨l11, (G14 2).ss 0⟩))) 30),.k (iv 0)] fun _ _ G15 => ?_
  intro S_ s_
  have e1 : l9 = Fr.rD ((Bg.RtB p_Sign p_Digits ∧ Bg.RtB q_Sign q_Digits) ∧ q_Sign ≠ 0) (Rat.divInt (Bg.zv p_Sign p_Digits) (Bg.zv q_Sign q_Digits)) := (Fr.Fz.ret (Fr.new_fin zp zq hyp zg za zb) ⟨hRR, hz0⟩ (hdv)).2.1
  subst e1
  have e3 : l11 = Fr.rE ((Bg.RtB p_Sign p_Digits ∧ Bg.RtB q_Sign q_Digits) ∧ q_Sign ≠ 0) (Rat.divInt (Bg.zv p_Sign p_Digits) (Bg.zv q_Sign q_Digits)) := (Fr.Fz.ret (Fr.new_fin zp zq hyp zg za zb) ⟨hRR, hz0⟩ (hdv)).2.2.2
  subst e3
  have e0 : n13 = Fr.rS ((Bg.RtB p_Sign p_Digits ∧ Bg.RtB q_Sign q_Digits) ∧ q_Sign ≠ 0) (Rat.divInt (Bg.zv p_Sign p_Digits) (Bg.zv q_Sign q_Digits)) := (Fr.Fz.ret (Fr.new_fin zp zq hyp zg za zb) ⟨hRR, hz0⟩ (hdv)).1
  have e2 : n16 = Fr.rT ((Bg.RtB p_Sign p_Digits ∧ Bg.RtB q_Sign q_Digits) ∧ q_Sign ≠ 0) := (Fr.Fz.ret (Fr.new_fin zp zq hyp zg za zb) ⟨hRR, hz0⟩ (hdv)).2.2.1
  have e4 : (0 : Int) = if ¬ (Bg.RtB p_Sign p_Digits ∧ Bg.RtB q_Sign q_Digits) then (1 : Int) else if q_Sign = 0 then 15 else 0 := by rw [if_neg (fun h => h hRR), if_neg hz0]
  exact V.ret [2, 0] [(G13 2).ss 0, (G14 2).ss 0] [fun _ => {}, fun _ => {}] [] [3, 5] [] (.tuple #[ag (DFrac.mk (DBig.mk n13 ⟨(Fr.rD ((Bg.RtB p_Sign p_Digits ∧ Bg.RtB q_Sign q_Digits) ∧ q_Sign ≠ 0) (Rat.divInt (Bg.zv p_Sign p_Digits) (Bg.zv q_Sign q_Digits))), (G13 2).ss 0⟩) (DBig.mk n16 ⟨(Fr.rE ((Bg.RtB p_Sign p_Digits ∧ Bg.RtB q_Sign q_Digits) ∧ q_Sign ≠ 0) (Rat.divInt (Bg.zv p_Sign p_Digits) (Bg.zv q_Sign q_Digits))), (G14 2).ss 0⟩)), iv 0]) (fun _ _ => by kernel_rfl) (fun _ _ => (Eq.trans (by kernel_rfl) (cong3 (fun (x0 : Int) (x2 : Int) (x4 : Int) => (.tuple #[.agg #[iv x0, ((G13 2).ss 0).v, iv x2, ((G14 2).ss 0).v], iv x4] : Value)) e0 e2 e4)).trans (by kernel_rfl)) (fun _ _ => trivial)
theorem new_ctv (p_Sign : Int) (p_Digits : List Int) (p_Digitss : SV) (q_Sign : Int) (q_Digits : List Int) (q_Digitss : SV) (hlp : p_Digits.length ≤ 274877906944) (hlq : q_Digits.length ≤ 274877906944) (rv0 : Int) (erv0 : rv0 = Fr.rS ((Bg.RtB p_Sign p_Digits ∧ Bg.RtB q_Sign q_Digits) ∧ q_Sign ≠ 0) (Rat.divInt (Bg.zv p_Sign p_Digits) (Bg.zv q_Sign q_Digits))) (rv1 : List Int) (erv1 : rv1 = Fr.rD ((Bg.RtB p_Sign p_Digits ∧ Bg.RtB q_Sign q_Digits) ∧ q_Sign ≠ 0) (Rat.divInt (Bg.zv p_Sign p_Digits) (Bg.zv q_Sign q_Digits))) (rv2 : Int) (erv2 : rv2 = Fr.rT ((Bg.RtB p_Sign p_Digits ∧ Bg.RtB q_Sign q_Digits) ∧ q_Sign ≠ 0)) (rv3 : List Int) (erv3 : rv3 = Fr.rE ((Bg.RtB p_Sign p_Digits ∧ Bg.RtB q_Sign q_Digits) ∧ q_Sign ≠ 0) (Rat.divInt (Bg.zv p_Sign p_Digits) (Bg.zv q_Sign q_Digits))) (rv4 : Int) (erv4 : rv4 = if ¬ (Bg.RtB p_Sign p_Digits ∧ Bg.RtB q_Sign q_Digits) then (1 : Int) else if q_Sign = 0 then 15 else 0) :
    Ct Try.prog 57 #[ag (DBig.mk p_Sign ⟨p_Digits, p_Digitss⟩), ag (DBig.mk q_Sign ⟨q_Digits, q_Digitss⟩)] [fs true p_Digits p_Digitss, fs true q_Digits q_Digitss] [] (fun g => .tuple #[ag (DFrac.mk (DBig.mk rv0 ⟨rv1, (g.ss 0)⟩) (DBig.mk rv2 ⟨rv3, (g.ss 1)⟩)), iv rv4]) (fun g => [fs true rv1 (g.ss 0), fs true rv3 (g.ss 1)]) (fun g => []) (fun g => []) := by
  subst erv0 erv1 erv2 erv3 erv4; exact new_ct p_Sign p_Digits p_Digitss q_Sign q_Digits q_Digitss hlp hlq
set_option maxRecDepth 10000 in
theorem fof_ct (p q : Int) (hp : -9223372036854775808 ≤ p ∧ p ≤ 9223372036854775807) (hq : -9223372036854775808 ≤ q ∧ q ≤ 9223372036854775807) :
    Ct Try.prog 84 #[iv p, iv q] [] [] (fun g => .tuple #[ag (DFrac.mk (DBig.mk (Fr.rS (q ≠ 0) (Rat.divInt p q)) ⟨Fr.rD (q ≠ 0) (Rat.divInt p q), (g.ss 0)⟩) (DBig.mk (Fr.rT (q ≠ 0)) ⟨Fr.rE (q ≠ 0) (Rat.divInt p q), (g.ss 1)⟩)), iv (if q = 0 then (15 : Int) else 0)]) (fun g => [fs true (Fr.rD (q ≠ 0) (Rat.divInt p q)) (g.ss 0), fs true (Fr.rE (q ≠ 0) (Rat.divInt p q)) (g.ss 1)]) (fun g => []) (fun g => []) := by
  refine V.fn mo Try.func84 13 1 (by kernel_rfl) fun w H ε k0 => ?_
  clear k0
  refine V.g [.nb 0 0 (fun b => pp b 0) 30 (fun _ => ca (DFrac.mk (DBig.mk 0 ⟨[], {}⟩) (DBig.mk 0 ⟨[], {}⟩))),.k (iv 0)] fun _ _ G1 => ?_
  intro S_ s_
  refine nm (Bg.sgn p : Int) fun n1 hn1 => ?_
  refine nm (Bg.dig p.natAbs : List Int) fun l1 hl1 => ?_
  have hl1n := congrArg List.length hl1
  refine nm (Bg.sgn q : Int) fun n2 hn2 => ?_
  refine nm (Bg.dig q.natAbs : List Int) fun l2 hl2 => ?_
  have hl2n := congrArg List.length hl2
  refine nm (Fr.rS ((Bg.RtB n1 l1 ∧ Bg.RtB n2 l2) ∧ n2 ≠ 0) (Rat.divInt (Bg.zv n1 l1) (Bg.zv n2 l2)) : Int) fun n3 hn3 => ?_
  refine nm (Fr.rD ((Bg.RtB n1 l1 ∧ Bg.RtB n2 l2) ∧ n2 ≠ 0) (Rat.divInt (Bg.zv n1 l1) (Bg.zv n2 l2)) : List Int) fun l3 hl3 => ?_
  have hl3n := congrArg List.length hl3
  refine nm (Fr.rT ((Bg.RtB n1 l1 ∧ Bg.RtB n2 l2) ∧ n2 ≠ 0) : Int) fun n4 hn4 => ?_
  refine nm (Fr.rE ((Bg.RtB n1 l1 ∧ Bg.RtB n2 l2) ∧ n2 ≠ 0) (Rat.divInt (Bg.zv n1 l1) (Bg.zv n2 l2)) : List Int) fun l4 hl4 => ?_
  have hl4n := congrArg List.length hl4
  refine nm (if ¬ (Bg.RtB n1 l1 ∧ Bg.RtB n2 l2) then (1 : Int) else if n2 = 0 then 15 else 0 : Int) fun n5 hn5 => ?_
  have zp := Fr.Bz.int hn1 hl1
  have zq := Fr.Bz.int hn2 hl2
  have zpl := zp.int_len hp; have zql := zq.int_len hq
  obtain ⟨en1, en2, en3, en4, en5⟩ := Fr.of_all zp zq hn3 hl3 hn4 hl4 hn5
  refine V.r [.k (iv p),.ct g0 1 80 false [] [] [] (fun _ G => of_ctv p (by omega) n1 hn1 l1 hl1),.k (iv q),.ct g0 3 80 false [] [] [] (fun _ G => of_ctv q (by omega) n2 hn2 l2 hl2),.ct g0 4 57 false [] [] [(kf true (.g 1 0) l1 (fun G => (G 1).ss 0)).a, (kf true (.g 3 0) l2 (fun G => (G 3).ss 0)).a] (fun _ G => new_ctv n1 l1 ((G 1).ss 0) n2 l2 ((G 3).ss 0) (by omega) (by omega) n3 hn3 l3 hl3 n4 hn4 l4 hl4 n5 hn5),.v fun G => ag (DFrac.mk (DBig.mk n3 ⟨l3, (G 4).ss 0⟩) (DBig.mk n4 ⟨l4, (G 4).ss 1⟩)),.k (iv n5),.st 0 (fun G => .blk ((G1 0).b) (ca (DFrac.mk (DBig.mk n3 ⟨l3, (G 4).ss 0⟩) (DBig.mk n4 ⟨l4, (G 4).ss 1⟩))) 30),.k (iv n5)] fun _ _ G2 kw2 => ?_
  intro S_ s_
  obtain ⟨⟨kl1, -⟩, ⟨kl2, -⟩, ⟨kl3, -⟩, ⟨kl4, -⟩, -⟩ : Lq l1 (((G2 1).ss 0).v) ∧ Lq l2 (((G2 3).ss 0).v) ∧ Lq l3 (((G2 4).ss 0).v) ∧ Lq l4 (((G2 4).ss 1).v) ∧ True := kn kw2 (by kernel_rfl)
  clear kw2
  have e1 : l3 = Fr.rD (q ≠ 0) (Rat.divInt p q) := en2
  subst e1
  have e3 : l4 = Fr.rE (q ≠ 0) (Rat.divInt p q) := en4
  subst e3
  have e0 : n3 = Fr.rS (q ≠ 0) (Rat.divInt p q) := en1
  have e2 : n4 = Fr.rT (q ≠ 0) := en3
  have e4 : n5 = if q = 0 then (15 : Int) else 0 := en5
  exact V.ret [0, 0] [(G2 4).ss 0, (G2 4).ss 1] [fun _ => {}, fun _ => {}] [] [2, 3] [] (.tuple #[ag (DFrac.mk (DBig.mk n3 ⟨(Fr.rD (q ≠ 0) (Rat.divInt p q)), (G2 4).ss 0⟩) (DBig.mk n4 ⟨(Fr.rE (q ≠ 0) (Rat.divInt p q)), (G2 4).ss 1⟩)), iv n5]) (fun _ _ => by kernel_rfl) (fun _ _ => (Eq.trans (by kernel_rfl) (cong3 (fun (x0 : Int) (x2 : Int) (x4 : Int) => (.tuple #[.agg #[iv x0, ((G2 4).ss 0).v, iv x2, ((G2 4).ss 1).v], iv x4] : Value)) e0 e2 e4)).trans (by kernel_rfl)) (fun _ _ => trivial)
theorem fof_ctv (p q : Int) (hp : -9223372036854775808 ≤ p ∧ p ≤ 9223372036854775807) (hq : -9223372036854775808 ≤ q ∧ q ≤ 9223372036854775807) (rv0 : Int) (erv0 : rv0 = Fr.rS (q ≠ 0) (Rat.divInt p q)) (rv1 : List Int) (erv1 : rv1 = Fr.rD (q ≠ 0) (Rat.divInt p q)) (rv2 : Int) (erv2 : rv2 = Fr.rT (q ≠ 0)) (rv3 : List Int) (erv3 : rv3 = Fr.rE (q ≠ 0) (Rat.divInt p q)) (rv4 : Int) (erv4 : rv4 = if q = 0 then (15 : Int) else 0) :
    Ct Try.prog 84 #[iv p, iv q] [] [] (fun g => .tuple #[ag (DFrac.mk (DBig.mk rv0 ⟨rv1, (g.ss 0)⟩) (DBig.mk rv2 ⟨rv3, (g.ss 1)⟩)), iv rv4]) (fun g => [fs true rv1 (g.ss 0), fs true rv3 (g.ss 1)]) (fun g => []) (fun g => []) := by
  subst erv0 erv1 erv2 erv3 erv4; exact fof_ct p q hp hq
set_option maxRecDepth 10000 in
theorem fint_ct (n : Int) (hn : -9223372036854775808 ≤ n ∧ n ≤ 9223372036854775807) :
    Ct Try.prog 46 #[iv n] [] [] (fun g => ag (DFrac.mk (DBig.mk (Bg.sgn n) ⟨Bg.dig n.natAbs, (g.ss 0)⟩) (DBig.mk 1 ⟨Bg.dig 1, (g.ss 1)⟩))) (fun g => [fs true (Bg.dig n.natAbs) (g.ss 0), fs true (Bg.dig 1) (g.ss 1)]) (fun g => []) (fun g => []) := by
  refine V.fn mo Try.func46 7 1 (by kernel_rfl) fun w H ε k0 => ?_
  clear k0
  refine V.g [.nb 0 0 (fun b => pp b 0) 30 (fun _ => ca (DFrac.mk (DBig.mk 0 ⟨[], {}⟩) (DBig.mk 0 ⟨[], {}⟩)))] fun _ _ G1 => ?_
  intro S_ s_
  refine nm (Bg.sgn n : Int) fun n1 hn1 => ?_
  refine nm (Bg.dig n.natAbs : List Int) fun l1 hl1 => ?_
  have hl1n := congrArg List.length hl1
  refine nm (Bg.sgn (1 : Int) : Int) fun n2 hn2 => ?_
  refine nm (Bg.dig (1 : Int).natAbs : List Int) fun l2 hl2 => ?_
  have hl2n := congrArg List.length hl2
  refine V.r [.k (iv n),.ct g0 1 80 false [] [] [] (fun _ G => of_ctv n (by omega) n1 hn1 l1 hl1),.ct g0 2 80 false [] [] [] (fun _ G => of_ctv (1 : Int) (by omega) n2 hn2 l2 hl2),.v fun G => ag (DFrac.mk (DBig.mk n1 ⟨l1, (G 1).ss 0⟩) (DBig.mk n2 ⟨l2, (G 2).ss 0⟩)),.st 0 (fun G => .blk ((G1 0).b) (ca (DFrac.mk (DBig.mk n1 ⟨l1, (G 1).ss 0⟩) (DBig.mk n2 ⟨l2, (G 2).ss 0⟩))) 30)] fun _ _ G2 kw2 => ?_
  intro S_ s_
  obtain ⟨⟨kl1, -⟩, ⟨kl2, -⟩, -⟩ : Lq l1 (((G2 1).ss 0).v) ∧ Lq l2 (((G2 2).ss 0).v) ∧ True := kn kw2 (by kernel_rfl)
  clear kw2
  have e1 : l1 = Bg.dig n.natAbs := by subst_vars; rfl
  subst e1
  have e3 : l2 = Bg.dig 1 := by subst_vars; rfl
  subst e3
  have e0 : n1 = Bg.sgn n := by subst_vars; rfl
  have e2 : n2 = 1 := by subst_vars; rfl
  exact V.ret [0] [(G2 1).ss 0, (G2 2).ss 0] [fun _ => {}, fun _ => {}] [] [0, 1] [] (ag (DFrac.mk (DBig.mk n1 ⟨(Bg.dig n.natAbs), (G2 1).ss 0⟩) (DBig.mk n2 ⟨(Bg.dig 1), (G2 2).ss 0⟩))) (fun _ _ => by kernel_rfl) (fun _ _ => (Eq.trans (by kernel_rfl) (cong2 (fun (x0 : Int) (x2 : Int) => (.agg #[iv x0, ((G2 1).ss 0).v, iv x2, ((G2 2).ss 0).v] : Value)) e0 e2)).trans (by kernel_rfl)) (fun _ _ => trivial)
theorem fint_ctv (n : Int) (hn : -9223372036854775808 ≤ n ∧ n ≤ 9223372036854775807) (rv0 : Int) (erv0 : rv0 = Bg.sgn n) (rv1 : List Int) (erv1 : rv1 = Bg.dig n.natAbs) (rv3 : List Int) (erv3 : rv3 = Bg.dig 1) :
    Ct Try.prog 46 #[iv n] [] [] (fun g => ag (DFrac.mk (DBig.mk rv0 ⟨rv1, (g.ss 0)⟩) (DBig.mk 1 ⟨rv3, (g.ss 1)⟩))) (fun g => [fs true rv1 (g.ss 0), fs true rv3 (g.ss 1)]) (fun g => []) (fun g => []) := by
  subst erv0 erv1 erv3; exact fint_ct n hn
set_option maxRecDepth 10000 in
theorem fadd_ct (a_P_Sign : Int) (a_P_Digits : List Int) (a_P_Digitss : SV) (a_Q_Sign : Int) (a_Q_Digits : List Int) (a_Q_Digitss : SV) (b_P_Sign : Int) (b_P_Digits : List Int) (b_P_Digitss : SV) (b_Q_Sign : Int) (b_Q_Digits : List Int) (b_Q_Digitss : SV) (haP : a_P_Digits.length ≤ 17179869184) (haQ : a_Q_Digits.length ≤ 17179869184) (hbP : b_P_Digits.length ≤ 17179869184) (hbQ : b_Q_Digits.length ≤ 17179869184) :
    Ct Try.prog 33 #[ag (DFrac.mk (DBig.mk a_P_Sign ⟨a_P_Digits, a_P_Digitss⟩) (DBig.mk a_Q_Sign ⟨a_Q_Digits, a_Q_Digitss⟩)), ag (DFrac.mk (DBig.mk b_P_Sign ⟨b_P_Digits, b_P_Digitss⟩) (DBig.mk b_Q_Sign ⟨b_Q_Digits, b_Q_Digitss⟩))] [fs true a_P_Digits a_P_Digitss, fs true a_Q_Digits a_Q_Digitss, fs true b_P_Digits b_P_Digitss, fs true b_Q_Digits b_Q_Digitss] [] (fun g => .tuple #[ag (DFrac.mk (DBig.mk (Fr.rS (Fr.FrB a_P_Sign a_P_Digits a_Q_Sign a_Q_Digits ∧ Fr.FrB b_P_Sign b_P_Digits b_Q_Sign b_Q_Digits) ((Fr.fq a_P_Sign a_P_Digits a_Q_Digits) + (Fr.fq b_P_Sign b_P_Digits b_Q_Digits))) ⟨Fr.rD (Fr.FrB a_P_Sign a_P_Digits a_Q_Sign a_Q_Digits ∧ Fr.FrB b_P_Sign b_P_Digits b_Q_Sign b_Q_Digits) ((Fr.fq a_P_Sign a_P_Digits a_Q_Digits) + (Fr.fq b_P_Sign b_P_Digits b_Q_Digits)), (g.ss 0)⟩) (DBig.mk (Fr.rT (Fr.FrB a_P_Sign a_P_Digits a_Q_Sign a_Q_Digits ∧ Fr.FrB b_P_Sign b_P_Digits b_Q_Sign b_Q_Digits)) ⟨Fr.rE (Fr.FrB a_P_Sign a_P_Digits a_Q_Sign a_Q_Digits ∧ Fr.FrB b_P_Sign b_P_Digits b_Q_Sign b_Q_Digits) ((Fr.fq a_P_Sign a_P_Digits a_Q_Digits) + (Fr.fq b_P_Sign b_P_Digits b_Q_Digits)), (g.ss 1)⟩)), iv (if ¬ (Fr.FrB a_P_Sign a_P_Digits a_Q_Sign a_Q_Digits ∧ Fr.FrB b_P_Sign b_P_Digits b_Q_Sign b_Q_Digits) then (1 : Int) else 0)]) (fun g => [fs true (Fr.rD (Fr.FrB a_P_Sign a_P_Digits a_Q_Sign a_Q_Digits ∧ Fr.FrB b_P_Sign b_P_Digits b_Q_Sign b_Q_Digits) ((Fr.fq a_P_Sign a_P_Digits a_Q_Digits) + (Fr.fq b_P_Sign b_P_Digits b_Q_Digits))) (g.ss 0), fs true (Fr.rE (Fr.FrB a_P_Sign a_P_Digits a_Q_Sign a_Q_Digits ∧ Fr.FrB b_P_Sign b_P_Digits b_Q_Sign b_Q_Digits) ((Fr.fq a_P_Sign a_P_Digits a_Q_Digits) + (Fr.fq b_P_Sign b_P_Digits b_Q_Digits))) (g.ss 1)]) (fun g => []) (fun g => []) := by
  refine V.fn mo Try.func33 40 4 (by kernel_rfl) fun w H ε k0 => ?_
  obtain ⟨⟨kl1, -⟩, ⟨kl2, -⟩, ⟨kl3, -⟩, ⟨kl4, -⟩, -⟩ : Lq a_P_Digits a_P_Digitss.v ∧ Lq a_Q_Digits a_Q_Digitss.v ∧ Lq b_P_Digits b_P_Digitss.v ∧ Lq b_Q_Digits b_Q_Digitss.v ∧ True := kn k0 (by kernel_rfl)
  clear k0
  refine V.g [.nb 0 0 (fun b => pp b 0) 30 (fun _ => ca (DFrac.mk (DBig.mk a_P_Sign ⟨a_P_Digits, a_P_Digitss⟩) (DBig.mk a_Q_Sign ⟨a_Q_Digits, a_Q_Digitss⟩))),.nb 1 1 (fun b => pp b 0) 30 (fun _ => ca (DFrac.mk (DBig.mk b_P_Sign ⟨b_P_Digits, b_P_Digitss⟩) (DBig.mk b_Q_Sign ⟨b_Q_Digits, b_Q_Digitss⟩))),.nb 2 2 (fun b => pp b 0) 30 (fun _ => ca (DFrac.mk (DBig.mk 0 ⟨[], {}⟩) (DBig.mk 0 ⟨[], {}⟩))),.k (iv 0)] fun _ _ G1 => ?_
  intro S_ s_
  refine nm ((!(decide (Fr.FrB a_P_Sign a_P_Digits a_Q_Sign a_Q_Digits))) || (!(decide (Fr.FrB b_P_Sign b_P_Digits b_Q_Sign b_Q_Digits))) : Bool) fun p1 hp1 => ?_
  refine V.g [.ld 0 0 true (fun _ => Dat.cells (DFrac.mk (DBig.mk a_P_Sign ⟨a_P_Digits, a_P_Digitss⟩) (DBig.mk a_Q_Sign ⟨a_Q_Digits, a_Q_Digitss⟩))),.cp g0 1 24 [(kf false (.f 0) a_P_Digits (fun _ => a_P_Digitss)).a, (kf false (.f 1) a_Q_Digits (fun _ => a_Q_Digitss)).a] (fun _ G => right_ct a_P_Sign a_P_Digits a_P_Digitss a_Q_Sign a_Q_Digits a_Q_Digitss (by omega) (by omega)),.k (bv (!(decide (Fr.FrB a_P_Sign a_P_Digits a_Q_Sign a_Q_Digits)))),.k (bv (!(decide (Fr.FrB a_P_Sign a_P_Digits a_Q_Sign a_Q_Digits)))),.ld 1 0 true (fun _ => Dat.cells (DFrac.mk (DBig.mk b_P_Sign ⟨b_P_Digits, b_P_Digitss⟩) (DBig.mk b_Q_Sign ⟨b_Q_Digits, b_Q_Digitss⟩))),.cp (gF (b := !(decide (Fr.FrB a_P_Sign a_P_Digits a_Q_Sign a_Q_Digits))) (iNF iDT)) 5 24 [(kf false (.f 2) b_P_Digits (fun _ => b_P_Digitss)).a, (kf false (.f 3) b_Q_Digits (fun _ => b_Q_Digitss)).a] (fun hg G => right_ct b_P_Sign b_P_Digits b_P_Digitss b_Q_Sign b_Q_Digits b_Q_Digitss (by omega) (by omega)),.k (bv (!(decide (Fr.FrB b_P_Sign b_P_Digits b_Q_Sign b_Q_Digits)))),.orn g0 false (!(decide (Fr.FrB a_P_Sign a_P_Digits a_Q_Sign a_Q_Digits))) (!(decide (Fr.FrB b_P_Sign b_P_Digits b_Q_Sign b_Q_Digits))) p1 hp1] fun _ _ G2 => ?_
  intro S_ s_
  refine V.cond (b := p1) (iN hp1 (iOT (iNT iDF) (iNT iDF))) (iN hp1 (iOF (iNF iDT) (iNF iDT))) (by kernel_rfl) (fun q1 => ?_) (fun q2 => ?_)
  · have hNR : ¬ (Fr.FrB a_P_Sign a_P_Digits a_Q_Sign a_Q_Digits ∧ Fr.FrB b_P_Sign b_P_Digits b_Q_Sign b_Q_Digits) := by rintro ⟨h1, h2⟩; rcases q1 with h | h; exact h h1; exact h h2
    refine V.g [.k (ag (DFrac.mk (DBig.mk 0 ⟨[], {}⟩) (DBig.mk 0 ⟨[], {}⟩))),.st 2 (fun _ => .blk ((G1 2).b) (ca (DFrac.mk (DBig.mk 0 ⟨[], {}⟩) (DBig.mk 0 ⟨[], {}⟩))) 30),.k (iv 1)] fun _ _ G3 => ?_
    intro S_ s_
    refine V.nilF (α := Int) ?_
    refine V.nilF (α := Int) ?_
    have e1 : ([] : List Int) = Fr.rD (Fr.FrB a_P_Sign a_P_Digits a_Q_Sign a_Q_Digits ∧ Fr.FrB b_P_Sign b_P_Digits b_Q_Sign b_Q_Digits) ((Fr.fq a_P_Sign a_P_Digits a_Q_Digits) + (Fr.fq b_P_Sign b_P_Digits b_Q_Digits)) := (Fr.Fz.no hNR ((Fr.fq a_P_Sign a_P_Digits a_Q_Digits) + (Fr.fq b_P_Sign b_P_Digits b_Q_Digits))).2.1
    rw [← e1]
    have e3 : ([] : List Int) = Fr.rE (Fr.FrB a_P_Sign a_P_Digits a_Q_Sign a_Q_Digits ∧ Fr.FrB b_P_Sign b_P_Digits b_Q_Sign b_Q_Digits) ((Fr.fq a_P_Sign a_P_Digits a_Q_Digits) + (Fr.fq b_P_Sign b_P_Digits b_Q_Digits)) := (Fr.Fz.no hNR ((Fr.fq a_P_Sign a_P_Digits a_Q_Digits) + (Fr.fq b_P_Sign b_P_Digits b_Q_Digits))).2.2.2
    rw [← e3]
    have e0 : (0 : Int) = Fr.rS (Fr.FrB a_P_Sign a_P_Digits a_Q_Sign a_Q_Digits ∧ Fr.FrB b_P_Sign b_P_Digits b_Q_Sign b_Q_Digits) ((Fr.fq a_P_Sign a_P_Digits a_Q_Digits) + (Fr.fq b_P_Sign b_P_Digits b_Q_Digits)) := (Fr.Fz.no hNR ((Fr.fq a_P_Sign a_P_Digits a_Q_Digits) + (Fr.fq b_P_Sign b_P_Digits b_Q_Digits))).1
    have e2 : (0 : Int) = Fr.rT (Fr.FrB a_P_Sign a_P_Digits a_Q_Sign a_Q_Digits ∧ Fr.FrB b_P_Sign b_P_Digits b_Q_Sign b_Q_Digits) := (Fr.Fz.no hNR ((Fr.fq a_P_Sign a_P_Digits a_Q_Digits) + (Fr.fq b_P_Sign b_P_Digits b_Q_Digits))).2.2.1
    have e4 : (1 : Int) = if ¬ (Fr.FrB a_P_Sign a_P_Digits a_Q_Sign a_Q_Digits ∧ Fr.FrB b_P_Sign b_P_Digits b_Q_Sign b_Q_Digits) then (1 : Int) else 0 := (if_pos hNR).symm
    exact V.ret [2, 0] [{}, {}] [fun _ => {}, fun _ => {}] [] [4, 5] [] (.tuple #[ag (DFrac.mk (DBig.mk 0 ⟨([] : List Int), {}⟩) (DBig.mk 0 ⟨([] : List Int), {}⟩)), iv 1]) (fun _ _ => by kernel_rfl) (fun _ _ => (Eq.trans (by kernel_rfl) (cong3 (fun (x0 : Int) (x2 : Int) (x4 : Int) => (.tuple #[.agg #[iv x0, SV.v ({}), iv x2, SV.v ({})], iv x4] : Value)) e0 e2 e4)).trans (by kernel_rfl)) (fun _ _ => trivial)
  have hRR : Fr.FrB a_P_Sign a_P_Digits a_Q_Sign a_Q_Digits ∧ Fr.FrB b_P_Sign b_P_Digits b_Q_Sign b_Q_Digits := by first | exact q2 | exact ⟨Decidable.not_not.1 (q2).1, Decidable.not_not.1 (q2).2⟩
  have fa := Fr.FrB.z hRR.1; have fb := Fr.FrB.z hRR.2
  refine nm (Bg.oS (Bg.RtB a_P_Sign a_P_Digits ∧ Bg.RtB b_Q_Sign b_Q_Digits) (Bg.zv a_P_Sign a_P_Digits * Bg.zv b_Q_Sign b_Q_Digits) : Int) fun n1 hn1 => ?_
  refine nm (Bg.oD (Bg.RtB a_P_Sign a_P_Digits ∧ Bg.RtB b_Q_Sign b_Q_Digits) (Bg.zv a_P_Sign a_P_Digits * Bg.zv b_Q_Sign b_Q_Digits) : List Int) fun l1 hl1 => ?_
  have hl1n := congrArg List.length hl1
  refine nm (Bg.oS (Bg.RtB b_P_Sign b_P_Digits ∧ Bg.RtB a_Q_Sign a_Q_Digits) (Bg.zv b_P_Sign b_P_Digits * Bg.zv a_Q_Sign a_Q_Digits) : Int) fun n2 hn2 => ?_
  refine nm (Bg.oD (Bg.RtB b_P_Sign b_P_Digits ∧ Bg.RtB a_Q_Sign a_Q_Digits) (Bg.zv b_P_Sign b_P_Digits * Bg.zv a_Q_Sign a_Q_Digits) : List Int) fun l2 hl2 => ?_
  have hl2n := congrArg List.length hl2
  refine nm (Bg.oS (Bg.RtB n1 l1 ∧ Bg.RtB n2 l2) (Bg.zv n1 l1 + Bg.zv n2 l2) : Int) fun n3 hn3 => ?_
  refine nm (Bg.oD (Bg.RtB n1 l1 ∧ Bg.RtB n2 l2) (Bg.zv n1 l1 + Bg.zv n2 l2) : List Int) fun l3 hl3 => ?_
  have hl3n := congrArg List.length hl3
  refine nm (if (Bg.RtB n1 l1 ∧ Bg.RtB n2 l2) then (0 : Int) else 1 : Int) fun n4 hn4 => ?_
  obtain ⟨z4, z4l⟩ := Fr.Bz.mul fa.p fb.q hn1 hl1
  obtain ⟨z9, z9l⟩ := Fr.Bz.mul fb.p fa.q hn2 hl2
  obtain ⟨zA, zAl⟩ := Fr.Bz.add z4 z9 hn3 hl3
  refine V.r [.k (pp ((G1 0).b) 0),.ld 0 0 true (fun _ => Dat.cells (DBig.mk a_P_Sign ⟨a_P_Digits, a_P_Digitss⟩)),.k (pp ((G1 1).b) 2),.ld 1 2 true (fun _ => Dat.cells (DBig.mk b_Q_Sign ⟨b_Q_Digits, b_Q_Digitss⟩)),.ct g0 4 58 false [] [] [(kf false (.f 0) a_P_Digits (fun _ => a_P_Digitss)).a, (kf false (.f 3) b_Q_Digits (fun _ => b_Q_Digitss)).a] (fun _ G => times_ctv a_P_Sign a_P_Digits a_P_Digitss b_Q_Sign b_Q_Digits b_Q_Digitss (by omega) (by omega) n1 hn1 l1 hl1),.k (pp ((G1 1).b) 0),.ld 1 0 true (fun _ => Dat.cells (DBig.mk b_P_Sign ⟨b_P_Digits, b_P_Digitss⟩)),.k (pp ((G1 0).b) 2),.ld 0 2 true (fun _ => Dat.cells (DBig.mk a_Q_Sign ⟨a_Q_Digits, a_Q_Digitss⟩)),.ct g0 9 58 false [] [] [(kf false (.f 2) b_P_Digits (fun _ => b_P_Digitss)).a, (kf false (.f 1) a_Q_Digits (fun _ => a_Q_Digitss)).a] (fun _ G => times_ctv b_P_Sign b_P_Digits b_P_Digitss a_Q_Sign a_Q_Digits a_Q_Digitss (by omega) (by omega) n2 hn2 l2 hl2),.ct g0 10 71 false [] [] [(kf true (.g 4 0) l1 (fun G => (G 4).ss 0)).a, (kf true (.g 9 0) l2 (fun G => (G 9).ss 0)).a] (fun _ G => Add_ctv n1 l1 ((G 4).ss 0) n2 l2 ((G 9).ss 0) (by omega) (by omega) n3 hn3 l3 hl3 n4 hn4),.v fun G => .tuple #[ag (DBig.mk n3 ⟨l3, (G 10).ss 0⟩), iv n4],.v fun G => ag (DBig.mk n3 ⟨l3, (G 10).ss 0⟩),.k (iv n4),.nb 14 3 (fun b => pp b 0) 28 (fun _ => ca (DBig.mk 0 ⟨[], {}⟩)),.st 3 (fun G => .blk ((G 14).b) (ca (DBig.mk n3 ⟨l3, (G 10).ss 0⟩)) 28),.k (iv n4)] fun _ _ G4 kw4 => ?_
  intro S_ s_
  obtain ⟨⟨kl5, -⟩, ⟨kl6, -⟩, ⟨kl7, -⟩, -⟩ : Lq l1 (((G4 4).ss 0).v) ∧ Lq l2 (((G4 9).ss 0).v) ∧ Lq l3 (((G4 10).ss 0).v) ∧ True := kn kw4 (by kernel_rfl)
  clear kw4
  refine nm (Bg.oS (Bg.RtB a_Q_Sign a_Q_Digits ∧ Bg.RtB b_Q_Sign b_Q_Digits) (Bg.zv a_Q_Sign a_Q_Digits * Bg.zv b_Q_Sign b_Q_Digits) : Int) fun n5 hn5 => ?_
  refine nm (Bg.oD (Bg.RtB a_Q_Sign a_Q_Digits ∧ Bg.RtB b_Q_Sign b_Q_Digits) (Bg.zv a_Q_Sign a_Q_Digits * Bg.zv b_Q_Sign b_Q_Digits) : List Int) fun l4 hl4 => ?_
  have hl4n := congrArg List.length hl4
  refine nm (Fr.rS ((Bg.RtB n3 l3 ∧ Bg.RtB n5 l4) ∧ n5 ≠ 0) (Rat.divInt (Bg.zv n3 l3) (Bg.zv n5 l4)) : Int) fun n6 hn6 => ?_
  refine nm (Fr.rD ((Bg.RtB n3 l3 ∧ Bg.RtB n5 l4) ∧ n5 ≠ 0) (Rat.divInt (Bg.zv n3 l3) (Bg.zv n5 l4)) : List Int) fun l5 hl5 => ?_
  have hl5n := congrArg List.length hl5
  refine nm (Fr.rT ((Bg.RtB n3 l3 ∧ Bg.RtB n5 l4) ∧ n5 ≠ 0) : Int) fun n7 hn7 => ?_
  refine nm (Fr.rE ((Bg.RtB n3 l3 ∧ Bg.RtB n5 l4) ∧ n5 ≠ 0) (Rat.divInt (Bg.zv n3 l3) (Bg.zv n5 l4)) : List Int) fun l6 hl6 => ?_
  have hl6n := congrArg List.length hl6
  refine nm (if ¬ (Bg.RtB n3 l3 ∧ Bg.RtB n5 l4) then (1 : Int) else if n5 = 0 then 15 else 0 : Int) fun n8 hn8 => ?_
  obtain ⟨z5, z5l⟩ := Fr.Bz.mul fa.q fb.q hn5 hl4
  have hy0 : ((((Fr.fq a_P_Sign a_P_Digits a_Q_Digits)).den : Int) * (((Fr.fq b_P_Sign b_P_Digits b_Q_Digits)).den : Int)) ≠ 0 := Int.mul_ne_zero fa.den fb.den
  have zf := Fr.new_is zA z5 hy0 hn6 hl5 hn7 hl6
  have hEr : n8 = 0 := by rw [hn8, if_neg (fun h => h ⟨zA.rt, z5.rt⟩), if_neg (z5.ne.2 hy0)]
  have heq := Fr.add_is (Fr.fq a_P_Sign a_P_Digits a_Q_Digits) (Fr.fq b_P_Sign b_P_Digits b_Q_Digits)
  refine V.r [.ld 3 0 true (fun _ => Dat.cells (DBig.mk n3 ⟨l3, (G4 10).ss 0⟩)),.k (pp ((G1 0).b) 2),.ld 0 2 true (fun _ => Dat.cells (DBig.mk a_Q_Sign ⟨a_Q_Digits, a_Q_Digitss⟩)),.k (pp ((G1 1).b) 2),.ld 1 2 true (fun _ => Dat.cells (DBig.mk b_Q_Sign ⟨b_Q_Digits, b_Q_Digitss⟩)),.ct g0 5 58 false [] [] [(kf false (.f 1) a_Q_Digits (fun _ => a_Q_Digitss)).a, (kf false (.f 3) b_Q_Digits (fun _ => b_Q_Digitss)).a] (fun _ G => times_ctv a_Q_Sign a_Q_Digits a_Q_Digitss b_Q_Sign b_Q_Digits b_Q_Digitss (by omega) (by omega) n5 hn5 l4 hl4),.ct g0 6 57 false [] [] [(kf true (.f 6) l3 (fun _ => (G4 10).ss 0)).a, (kf true (.g 5 0) l4 (fun G => (G 5).ss 0)).a] (fun _ G => new_ctv n3 l3 ((G4 10).ss 0) n5 l4 ((G 5).ss 0) (by omega) (by omega) n6 hn6 l5 hl5 n7 hn7 l6 hl6 n8 hn8),.v fun G => ag (DFrac.mk (DBig.mk n6 ⟨l5, (G 6).ss 0⟩) (DBig.mk n7 ⟨l6, (G 6).ss 1⟩)),.k (iv n8),.st 2 (fun G => .blk ((G1 2).b) (ca (DFrac.mk (DBig.mk n6 ⟨l5, (G 6).ss 0⟩) (DBig.mk n7 ⟨l6, (G 6).ss 1⟩))) 30),.k (iv n8)] fun _ _ G5 kw5 => ?_
  intro S_ s_
  obtain ⟨⟨kl8, -⟩, ⟨kl9, -⟩, ⟨kl10, -⟩, -⟩ : Lq l4 (((G5 5).ss 0).v) ∧ Lq l5 (((G5 6).ss 0).v) ∧ Lq l6 (((G5 6).ss 1).v) ∧ True := kn kw5 (by kernel_rfl)
  clear kw5
  have e1 : l5 = Fr.rD (Fr.FrB a_P_Sign a_P_Digits a_Q_Sign a_Q_Digits ∧ Fr.FrB b_P_Sign b_P_Digits b_Q_Sign b_Q_Digits) ((Fr.fq a_P_Sign a_P_Digits a_Q_Digits) + (Fr.fq b_P_Sign b_P_Digits b_Q_Digits)) := (Fr.Fz.ret zf hRR (heq)).2.1
  subst e1
  have e3 : l6 = Fr.rE (Fr.FrB a_P_Sign a_P_Digits a_Q_Sign a_Q_Digits ∧ Fr.FrB b_P_Sign b_P_Digits b_Q_Sign b_Q_Digits) ((Fr.fq a_P_Sign a_P_Digits a_Q_Digits) + (Fr.fq b_P_Sign b_P_Digits b_Q_Digits)) := (Fr.Fz.ret zf hRR (heq)).2.2.2
  subst e3
  have e0 : n6 = Fr.rS (Fr.FrB a_P_Sign a_P_Digits a_Q_Sign a_Q_Digits ∧ Fr.FrB b_P_Sign b_P_Digits b_Q_Sign b_Q_Digits) ((Fr.fq a_P_Sign a_P_Digits a_Q_Digits) + (Fr.fq b_P_Sign b_P_Digits b_Q_Digits)) := (Fr.Fz.ret zf hRR (heq)).1
  have e2 : n7 = Fr.rT (Fr.FrB a_P_Sign a_P_Digits a_Q_Sign a_Q_Digits ∧ Fr.FrB b_P_Sign b_P_Digits b_Q_Sign b_Q_Digits) := (Fr.Fz.ret zf hRR (heq)).2.2.1
  have e4 : n8 = if ¬ (Fr.FrB a_P_Sign a_P_Digits a_Q_Sign a_Q_Digits ∧ Fr.FrB b_P_Sign b_P_Digits b_Q_Sign b_Q_Digits) then (1 : Int) else 0 := by rw [if_neg (fun h => h hRR)]; exact hEr
  exact V.ret [2, 0] [(G5 6).ss 0, (G5 6).ss 1] [fun _ => {}, fun _ => {}] [] [8, 9] [] (.tuple #[ag (DFrac.mk (DBig.mk n6 ⟨(Fr.rD (Fr.FrB a_P_Sign a_P_Digits a_Q_Sign a_Q_Digits ∧ Fr.FrB b_P_Sign b_P_Digits b_Q_Sign b_Q_Digits) ((Fr.fq a_P_Sign a_P_Digits a_Q_Digits) + (Fr.fq b_P_Sign b_P_Digits b_Q_Digits))), (G5 6).ss 0⟩) (DBig.mk n7 ⟨(Fr.rE (Fr.FrB a_P_Sign a_P_Digits a_Q_Sign a_Q_Digits ∧ Fr.FrB b_P_Sign b_P_Digits b_Q_Sign b_Q_Digits) ((Fr.fq a_P_Sign a_P_Digits a_Q_Digits) + (Fr.fq b_P_Sign b_P_Digits b_Q_Digits))), (G5 6).ss 1⟩)), iv n8]) (fun _ _ => by kernel_rfl) (fun _ _ => (Eq.trans (by kernel_rfl) (cong3 (fun (x0 : Int) (x2 : Int) (x4 : Int) => (.tuple #[.agg #[iv x0, ((G5 6).ss 0).v, iv x2, ((G5 6).ss 1).v], iv x4] : Value)) e0 e2 e4)).trans (by kernel_rfl)) (fun _ _ => trivial)
theorem fadd_ctv (a_P_Sign : Int) (a_P_Digits : List Int) (a_P_Digitss : SV) (a_Q_Sign : Int) (a_Q_Digits : List Int) (a_Q_Digitss : SV) (b_P_Sign : Int) (b_P_Digits : List Int) (b_P_Digitss : SV) (b_Q_Sign : Int) (b_Q_Digits : List Int) (b_Q_Digitss : SV) (haP : a_P_Digits.length ≤ 17179869184) (haQ : a_Q_Digits.length ≤ 17179869184) (hbP : b_P_Digits.length ≤ 17179869184) (hbQ : b_Q_Digits.length ≤ 17179869184) (rv0 : Int) (erv0 : rv0 = Fr.rS (Fr.FrB a_P_Sign a_P_Digits a_Q_Sign a_Q_Digits ∧ Fr.FrB b_P_Sign b_P_Digits b_Q_Sign b_Q_Digits) ((Fr.fq a_P_Sign a_P_Digits a_Q_Digits) + (Fr.fq b_P_Sign b_P_Digits b_Q_Digits))) (rv1 : List Int) (erv1 : rv1 = Fr.rD (Fr.FrB a_P_Sign a_P_Digits a_Q_Sign a_Q_Digits ∧ Fr.FrB b_P_Sign b_P_Digits b_Q_Sign b_Q_Digits) ((Fr.fq a_P_Sign a_P_Digits a_Q_Digits) + (Fr.fq b_P_Sign b_P_Digits b_Q_Digits))) (rv2 : Int) (erv2 : rv2 = Fr.rT (Fr.FrB a_P_Sign a_P_Digits a_Q_Sign a_Q_Digits ∧ Fr.FrB b_P_Sign b_P_Digits b_Q_Sign b_Q_Digits)) (rv3 : List Int) (erv3 : rv3 = Fr.rE (Fr.FrB a_P_Sign a_P_Digits a_Q_Sign a_Q_Digits ∧ Fr.FrB b_P_Sign b_P_Digits b_Q_Sign b_Q_Digits) ((Fr.fq a_P_Sign a_P_Digits a_Q_Digits) + (Fr.fq b_P_Sign b_P_Digits b_Q_Digits))) (rv4 : Int) (erv4 : rv4 = if ¬ (Fr.FrB a_P_Sign a_P_Digits a_Q_Sign a_Q_Digits ∧ Fr.FrB b_P_Sign b_P_Digits b_Q_Sign b_Q_Digits) then (1 : Int) else 0) :
    Ct Try.prog 33 #[ag (DFrac.mk (DBig.mk a_P_Sign ⟨a_P_Digits, a_P_Digitss⟩) (DBig.mk a_Q_Sign ⟨a_Q_Digits, a_Q_Digitss⟩)), ag (DFrac.mk (DBig.mk b_P_Sign ⟨b_P_Digits, b_P_Digitss⟩) (DBig.mk b_Q_Sign ⟨b_Q_Digits, b_Q_Digitss⟩))] [fs true a_P_Digits a_P_Digitss, fs true a_Q_Digits a_Q_Digitss, fs true b_P_Digits b_P_Digitss, fs true b_Q_Digits b_Q_Digitss] [] (fun g => .tuple #[ag (DFrac.mk (DBig.mk rv0 ⟨rv1, (g.ss 0)⟩) (DBig.mk rv2 ⟨rv3, (g.ss 1)⟩)), iv rv4]) (fun g => [fs true rv1 (g.ss 0), fs true rv3 (g.ss 1)]) (fun g => []) (fun g => []) := by
  subst erv0 erv1 erv2 erv3 erv4; exact fadd_ct a_P_Sign a_P_Digits a_P_Digitss a_Q_Sign a_Q_Digits a_Q_Digitss b_P_Sign b_P_Digits b_P_Digitss b_Q_Sign b_Q_Digits b_Q_Digitss haP haQ hbP hbQ
set_option maxRecDepth 10000 in
theorem fmul_ct (a_P_Sign : Int) (a_P_Digits : List Int) (a_P_Digitss : SV) (a_Q_Sign : Int) (a_Q_Digits : List Int) (a_Q_Digitss : SV) (b_P_Sign : Int) (b_P_Digits : List Int) (b_P_Digitss : SV) (b_Q_Sign : Int) (b_Q_Digits : List Int) (b_Q_Digitss : SV) (haP : a_P_Digits.length ≤ 17179869184) (haQ : a_Q_Digits.length ≤ 17179869184) (hbP : b_P_Digits.length ≤ 17179869184) (hbQ : b_Q_Digits.length ≤ 17179869184) :
    Ct Try.prog 20 #[ag (DFrac.mk (DBig.mk a_P_Sign ⟨a_P_Digits, a_P_Digitss⟩) (DBig.mk a_Q_Sign ⟨a_Q_Digits, a_Q_Digitss⟩)), ag (DFrac.mk (DBig.mk b_P_Sign ⟨b_P_Digits, b_P_Digitss⟩) (DBig.mk b_Q_Sign ⟨b_Q_Digits, b_Q_Digitss⟩))] [fs true a_P_Digits a_P_Digitss, fs true a_Q_Digits a_Q_Digitss, fs true b_P_Digits b_P_Digitss, fs true b_Q_Digits b_Q_Digitss] [] (fun g => .tuple #[ag (DFrac.mk (DBig.mk (Fr.rS (Fr.FrB a_P_Sign a_P_Digits a_Q_Sign a_Q_Digits ∧ Fr.FrB b_P_Sign b_P_Digits b_Q_Sign b_Q_Digits) ((Fr.fq a_P_Sign a_P_Digits a_Q_Digits) * (Fr.fq b_P_Sign b_P_Digits b_Q_Digits))) ⟨Fr.rD (Fr.FrB a_P_Sign a_P_Digits a_Q_Sign a_Q_Digits ∧ Fr.FrB b_P_Sign b_P_Digits b_Q_Sign b_Q_Digits) ((Fr.fq a_P_Sign a_P_Digits a_Q_Digits) * (Fr.fq b_P_Sign b_P_Digits b_Q_Digits)), (g.ss 0)⟩) (DBig.mk (Fr.rT (Fr.FrB a_P_Sign a_P_Digits a_Q_Sign a_Q_Digits ∧ Fr.FrB b_P_Sign b_P_Digits b_Q_Sign b_Q_Digits)) ⟨Fr.rE (Fr.FrB a_P_Sign a_P_Digits a_Q_Sign a_Q_Digits ∧ Fr.FrB b_P_Sign b_P_Digits b_Q_Sign b_Q_Digits) ((Fr.fq a_P_Sign a_P_Digits a_Q_Digits) * (Fr.fq b_P_Sign b_P_Digits b_Q_Digits)), (g.ss 1)⟩)), iv (if ¬ (Fr.FrB a_P_Sign a_P_Digits a_Q_Sign a_Q_Digits ∧ Fr.FrB b_P_Sign b_P_Digits b_Q_Sign b_Q_Digits) then (1 : Int) else 0)]) (fun g => [fs true (Fr.rD (Fr.FrB a_P_Sign a_P_Digits a_Q_Sign a_Q_Digits ∧ Fr.FrB b_P_Sign b_P_Digits b_Q_Sign b_Q_Digits) ((Fr.fq a_P_Sign a_P_Digits a_Q_Digits) * (Fr.fq b_P_Sign b_P_Digits b_Q_Digits))) (g.ss 0), fs true (Fr.rE (Fr.FrB a_P_Sign a_P_Digits a_Q_Sign a_Q_Digits ∧ Fr.FrB b_P_Sign b_P_Digits b_Q_Sign b_Q_Digits) ((Fr.fq a_P_Sign a_P_Digits a_Q_Digits) * (Fr.fq b_P_Sign b_P_Digits b_Q_Digits))) (g.ss 1)]) (fun g => []) (fun g => []) := by
  refine V.fn mo Try.func20 28 3 (by kernel_rfl) fun w H ε k0 => ?_
  obtain ⟨⟨kl1, -⟩, ⟨kl2, -⟩, ⟨kl3, -⟩, ⟨kl4, -⟩, -⟩ : Lq a_P_Digits a_P_Digitss.v ∧ Lq a_Q_Digits a_Q_Digitss.v ∧ Lq b_P_Digits b_P_Digitss.v ∧ Lq b_Q_Digits b_Q_Digitss.v ∧ True := kn k0 (by kernel_rfl)
  clear k0
  refine V.g [.nb 0 0 (fun b => pp b 0) 30 (fun _ => ca (DFrac.mk (DBig.mk a_P_Sign ⟨a_P_Digits, a_P_Digitss⟩) (DBig.mk a_Q_Sign ⟨a_Q_Digits, a_Q_Digitss⟩))),.nb 1 1 (fun b => pp b 0) 30 (fun _ => ca (DFrac.mk (DBig.mk b_P_Sign ⟨b_P_Digits, b_P_Digitss⟩) (DBig.mk b_Q_Sign ⟨b_Q_Digits, b_Q_Digitss⟩))),.nb 2 2 (fun b => pp b 0) 30 (fun _ => ca (DFrac.mk (DBig.mk 0 ⟨[], {}⟩) (DBig.mk 0 ⟨[], {}⟩))),.k (iv 0)] fun _ _ G1 => ?_
  intro S_ s_
  refine nm ((!(decide (Fr.FrB a_P_Sign a_P_Digits a_Q_Sign a_Q_Digits))) || (!(decide (Fr.FrB b_P_Sign b_P_Digits b_Q_Sign b_Q_Digits))) : Bool) fun p1 hp1 => ?_
  refine V.g [.ld 0 0 true (fun _ => Dat.cells (DFrac.mk (DBig.mk a_P_Sign ⟨a_P_Digits, a_P_Digitss⟩) (DBig.mk a_Q_Sign ⟨a_Q_Digits, a_Q_Digitss⟩))),.cp g0 1 24 [(kf false (.f 0) a_P_Digits (fun _ => a_P_Digitss)).a, (kf false (.f 1) a_Q_Digits (fun _ => a_Q_Digitss)).a] (fun _ G => right_ct a_P_Sign a_P_Digits a_P_Digitss a_Q_Sign a_Q_Digits a_Q_Digitss (by omega) (by omega)),.k (bv (!(decide (Fr.FrB a_P_Sign a_P_Digits a_Q_Sign a_Q_Digits)))),.k (bv (!(decide (Fr.FrB a_P_Sign a_P_Digits a_Q_Sign a_Q_Digits)))),.ld 1 0 true (fun _ => Dat.cells (DFrac.mk (DBig.mk b_P_Sign ⟨b_P_Digits, b_P_Digitss⟩) (DBig.mk b_Q_Sign ⟨b_Q_Digits, b_Q_Digitss⟩))),.cp (gF (b := !(decide (Fr.FrB a_P_Sign a_P_Digits a_Q_Sign a_Q_Digits))) (iNF iDT)) 5 24 [(kf false (.f 2) b_P_Digits (fun _ => b_P_Digitss)).a, (kf false (.f 3) b_Q_Digits (fun _ => b_Q_Digitss)).a] (fun hg G => right_ct b_P_Sign b_P_Digits b_P_Digitss b_Q_Sign b_Q_Digits b_Q_Digitss (by omega) (by omega)),.k (bv (!(decide (Fr.FrB b_P_Sign b_P_Digits b_Q_Sign b_Q_Digits)))),.orn g0 false (!(decide (Fr.FrB a_P_Sign a_P_Digits a_Q_Sign a_Q_Digits))) (!(decide (Fr.FrB b_P_Sign b_P_Digits b_Q_Sign b_Q_Digits))) p1 hp1] fun _ _ G2 => ?_
  intro S_ s_
  refine V.cond (b := p1) (iN hp1 (iOT (iNT iDF) (iNT iDF))) (iN hp1 (iOF (iNF iDT) (iNF iDT))) (by kernel_rfl) (fun q1 => ?_) (fun q2 => ?_)
  · have hNR : ¬ (Fr.FrB a_P_Sign a_P_Digits a_Q_Sign a_Q_Digits ∧ Fr.FrB b_P_Sign b_P_Digits b_Q_Sign b_Q_Digits) := by rintro ⟨h1, h2⟩; rcases q1 with h | h; exact h h1; exact h h2
    refine V.g [.k (ag (DFrac.mk (DBig.mk 0 ⟨[], {}⟩) (DBig.mk 0 ⟨[], {}⟩))),.st 2 (fun _ => .blk ((G1 2).b) (ca (DFrac.mk (DBig.mk 0 ⟨[], {}⟩) (DBig.mk 0 ⟨[], {}⟩))) 30),.k (iv 1)] fun _ _ G3 => ?_
    intro S_ s_
    refine V.nilF (α := Int) ?_
    refine V.nilF (α := Int) ?_
    have e1 : ([] : List Int) = Fr.rD (Fr.FrB a_P_Sign a_P_Digits a_Q_Sign a_Q_Digits ∧ Fr.FrB b_P_Sign b_P_Digits b_Q_Sign b_Q_Digits) ((Fr.fq a_P_Sign a_P_Digits a_Q_Digits) * (Fr.fq b_P_Sign b_P_Digits b_Q_Digits)) := (Fr.Fz.no hNR ((Fr.fq a_P_Sign a_P_Digits a_Q_Digits) * (Fr.fq b_P_Sign b_P_Digits b_Q_Digits))).2.1
    rw [← e1]
    have e3 : ([] : List Int) = Fr.rE (Fr.FrB a_P_Sign a_P_Digits a_Q_Sign a_Q_Digits ∧ Fr.FrB b_P_Sign b_P_Digits b_Q_Sign b_Q_Digits) ((Fr.fq a_P_Sign a_P_Digits a_Q_Digits) * (Fr.fq b_P_Sign b_P_Digits b_Q_Digits)) := (Fr.Fz.no hNR ((Fr.fq a_P_Sign a_P_Digits a_Q_Digits) * (Fr.fq b_P_Sign b_P_Digits b_Q_Digits))).2.2.2
    rw [← e3]
    have e0 : (0 : Int) = Fr.rS (Fr.FrB a_P_Sign a_P_Digits a_Q_Sign a_Q_Digits ∧ Fr.FrB b_P_Sign b_P_Digits b_Q_Sign b_Q_Digits) ((Fr.fq a_P_Sign a_P_Digits a_Q_Digits) * (Fr.fq b_P_Sign b_P_Digits b_Q_Digits)) := (Fr.Fz.no hNR ((Fr.fq a_P_Sign a_P_Digits a_Q_Digits) * (Fr.fq b_P_Sign b_P_Digits b_Q_Digits))).1
    have e2 : (0 : Int) = Fr.rT (Fr.FrB a_P_Sign a_P_Digits a_Q_Sign a_Q_Digits ∧ Fr.FrB b_P_Sign b_P_Digits b_Q_Sign b_Q_Digits) := (Fr.Fz.no hNR ((Fr.fq a_P_Sign a_P_Digits a_Q_Digits) * (Fr.fq b_P_Sign b_P_Digits b_Q_Digits))).2.2.1
    have e4 : (1 : Int) = if ¬ (Fr.FrB a_P_Sign a_P_Digits a_Q_Sign a_Q_Digits ∧ Fr.FrB b_P_Sign b_P_Digits b_Q_Sign b_Q_Digits) then (1 : Int) else 0 := (if_pos hNR).symm
    exact V.ret [2, 0] [{}, {}] [fun _ => {}, fun _ => {}] [] [4, 5] [] (.tuple #[ag (DFrac.mk (DBig.mk 0 ⟨([] : List Int), {}⟩) (DBig.mk 0 ⟨([] : List Int), {}⟩)), iv 1]) (fun _ _ => by kernel_rfl) (fun _ _ => (Eq.trans (by kernel_rfl) (cong3 (fun (x0 : Int) (x2 : Int) (x4 : Int) => (.tuple #[.agg #[iv x0, SV.v ({}), iv x2, SV.v ({})], iv x4] : Value)) e0 e2 e4)).trans (by kernel_rfl)) (fun _ _ => trivial)
  have hRR : Fr.FrB a_P_Sign a_P_Digits a_Q_Sign a_Q_Digits ∧ Fr.FrB b_P_Sign b_P_Digits b_Q_Sign b_Q_Digits := by first | exact q2 | exact ⟨Decidable.not_not.1 (q2).1, Decidable.not_not.1 (q2).2⟩
  have fa := Fr.FrB.z hRR.1; have fb := Fr.FrB.z hRR.2
  refine nm (Bg.oS (Bg.RtB a_P_Sign a_P_Digits ∧ Bg.RtB b_P_Sign b_P_Digits) (Bg.zv a_P_Sign a_P_Digits * Bg.zv b_P_Sign b_P_Digits) : Int) fun n1 hn1 => ?_
  refine nm (Bg.oD (Bg.RtB a_P_Sign a_P_Digits ∧ Bg.RtB b_P_Sign b_P_Digits) (Bg.zv a_P_Sign a_P_Digits * Bg.zv b_P_Sign b_P_Digits) : List Int) fun l1 hl1 => ?_
  have hl1n := congrArg List.length hl1
  refine nm (Bg.oS (Bg.RtB a_Q_Sign a_Q_Digits ∧ Bg.RtB b_Q_Sign b_Q_Digits) (Bg.zv a_Q_Sign a_Q_Digits * Bg.zv b_Q_Sign b_Q_Digits) : Int) fun n2 hn2 => ?_
  refine nm (Bg.oD (Bg.RtB a_Q_Sign a_Q_Digits ∧ Bg.RtB b_Q_Sign b_Q_Digits) (Bg.zv a_Q_Sign a_Q_Digits * Bg.zv b_Q_Sign b_Q_Digits) : List Int) fun l2 hl2 => ?_
  have hl2n := congrArg List.length hl2
  refine nm (Fr.rS ((Bg.RtB n1 l1 ∧ Bg.RtB n2 l2) ∧ n2 ≠ 0) (Rat.divInt (Bg.zv n1 l1) (Bg.zv n2 l2)) : Int) fun n3 hn3 => ?_
  refine nm (Fr.rD ((Bg.RtB n1 l1 ∧ Bg.RtB n2 l2) ∧ n2 ≠ 0) (Rat.divInt (Bg.zv n1 l1) (Bg.zv n2 l2)) : List Int) fun l3 hl3 => ?_
  have hl3n := congrArg List.length hl3
  refine nm (Fr.rT ((Bg.RtB n1 l1 ∧ Bg.RtB n2 l2) ∧ n2 ≠ 0) : Int) fun n4 hn4 => ?_
  refine nm (Fr.rE ((Bg.RtB n1 l1 ∧ Bg.RtB n2 l2) ∧ n2 ≠ 0) (Rat.divInt (Bg.zv n1 l1) (Bg.zv n2 l2)) : List Int) fun l4 hl4 => ?_
  have hl4n := congrArg List.length hl4
  refine nm (if ¬ (Bg.RtB n1 l1 ∧ Bg.RtB n2 l2) then (1 : Int) else if n2 = 0 then 15 else 0 : Int) fun n5 hn5 => ?_
  obtain ⟨z4, z4l⟩ := Fr.Bz.mul fa.p fb.p hn1 hl1
  obtain ⟨z9, z9l⟩ := Fr.Bz.mul fa.q fb.q hn2 hl2
  have hy0 : ((((Fr.fq a_P_Sign a_P_Digits a_Q_Digits)).den : Int) * (((Fr.fq b_P_Sign b_P_Digits b_Q_Digits)).den : Int)) ≠ 0 := Int.mul_ne_zero fa.den fb.den
  have zf := Fr.new_is z4 z9 hy0 hn3 hl3 hn4 hl4
  have hEr : n5 = 0 := by rw [hn5, if_neg (fun h => h ⟨z4.rt, z9.rt⟩), if_neg (z9.ne.2 hy0)]
  have heq := Fr.mul_is (Fr.fq a_P_Sign a_P_Digits a_Q_Digits) (Fr.fq b_P_Sign b_P_Digits b_Q_Digits)
  refine V.r [.k (pp ((G1 0).b) 0),.ld 0 0 true (fun _ => Dat.cells (DBig.mk a_P_Sign ⟨a_P_Digits, a_P_Digitss⟩)),.k (pp ((G1 1).b) 0),.ld 1 0 true (fun _ => Dat.cells (DBig.mk b_P_Sign ⟨b_P_Digits, b_P_Digitss⟩)),.ct g0 4 58 false [] [] [(kf false (.f 0) a_P_Digits (fun _ => a_P_Digitss)).a, (kf false (.f 2) b_P_Digits (fun _ => b_P_Digitss)).a] (fun _ G => times_ctv a_P_Sign a_P_Digits a_P_Digitss b_P_Sign b_P_Digits b_P_Digitss (by omega) (by omega) n1 hn1 l1 hl1),.k (pp ((G1 0).b) 2),.ld 0 2 true (fun _ => Dat.cells (DBig.mk a_Q_Sign ⟨a_Q_Digits, a_Q_Digitss⟩)),.k (pp ((G1 1).b) 2),.ld 1 2 true (fun _ => Dat.cells (DBig.mk b_Q_Sign ⟨b_Q_Digits, b_Q_Digitss⟩)),.ct g0 9 58 false [] [] [(kf false (.f 1) a_Q_Digits (fun _ => a_Q_Digitss)).a, (kf false (.f 3) b_Q_Digits (fun _ => b_Q_Digitss)).a] (fun _ G => times_ctv a_Q_Sign a_Q_Digits a_Q_Digitss b_Q_Sign b_Q_Digits b_Q_Digitss (by omega) (by omega) n2 hn2 l2 hl2),.ct g0 10 57 false [] [] [(kf true (.g 4 0) l1 (fun G => (G 4).ss 0)).a, (kf true (.g 9 0) l2 (fun G => (G 9).ss 0)).a] (fun _ G => new_ctv n1 l1 ((G 4).ss 0) n2 l2 ((G 9).ss 0) (by omega) (by omega) n3 hn3 l3 hl3 n4 hn4 l4 hl4 n5 hn5),.v fun G => ag (DFrac.mk (DBig.mk n3 ⟨l3, (G 10).ss 0⟩) (DBig.mk n4 ⟨l4, (G 10).ss 1⟩)),.k (iv n5),.st 2 (fun G => .blk ((G1 2).b) (ca (DFrac.mk (DBig.mk n3 ⟨l3, (G 10).ss 0⟩) (DBig.mk n4 ⟨l4, (G 10).ss 1⟩))) 30),.k (iv n5)] fun _ _ G4 kw4 => ?_
  intro S_ s_
  obtain ⟨⟨kl5, -⟩, ⟨kl6, -⟩, ⟨kl7, -⟩, ⟨kl8, -⟩, -⟩ : Lq l1 (((G4 4).ss 0).v) ∧ Lq l2 (((G4 9).ss 0).v) ∧ Lq l3 (((G4 10).ss 0).v) ∧ Lq l4 (((G4 10).ss 1).v) ∧ True := kn kw4 (by kernel_rfl)
  clear kw4
  have e1 : l3 = Fr.rD (Fr.FrB a_P_Sign a_P_Digits a_Q_Sign a_Q_Digits ∧ Fr.FrB b_P_Sign b_P_Digits b_Q_Sign b_Q_Digits) ((Fr.fq a_P_Sign a_P_Digits a_Q_Digits) * (Fr.fq b_P_Sign b_P_Digits b_Q_Digits)) := (Fr.Fz.ret zf hRR (heq)).2.1
  subst e1
  have e3 : l4 = Fr.rE (Fr.FrB a_P_Sign a_P_Digits a_Q_Sign a_Q_Digits ∧ Fr.FrB b_P_Sign b_P_Digits b_Q_Sign b_Q_Digits) ((Fr.fq a_P_Sign a_P_Digits a_Q_Digits) * (Fr.fq b_P_Sign b_P_Digits b_Q_Digits)) := (Fr.Fz.ret zf hRR (heq)).2.2.2
  subst e3
  have e0 : n3 = Fr.rS (Fr.FrB a_P_Sign a_P_Digits a_Q_Sign a_Q_Digits ∧ Fr.FrB b_P_Sign b_P_Digits b_Q_Sign b_Q_Digits) ((Fr.fq a_P_Sign a_P_Digits a_Q_Digits) * (Fr.fq b_P_Sign b_P_Digits b_Q_Digits)) := (Fr.Fz.ret zf hRR (heq)).1
  have e2 : n4 = Fr.rT (Fr.FrB a_P_Sign a_P_Digits a_Q_Sign a_Q_Digits ∧ Fr.FrB b_P_Sign b_P_Digits b_Q_Sign b_Q_Digits) := (Fr.Fz.ret zf hRR (heq)).2.2.1
  have e4 : n5 = if ¬ (Fr.FrB a_P_Sign a_P_Digits a_Q_Sign a_Q_Digits ∧ Fr.FrB b_P_Sign b_P_Digits b_Q_Sign b_Q_Digits) then (1 : Int) else 0 := by rw [if_neg (fun h => h hRR)]; exact hEr
  exact V.ret [2, 0] [(G4 10).ss 0, (G4 10).ss 1] [fun _ => {}, fun _ => {}] [] [6, 7] [] (.tuple #[ag (DFrac.mk (DBig.mk n3 ⟨(Fr.rD (Fr.FrB a_P_Sign a_P_Digits a_Q_Sign a_Q_Digits ∧ Fr.FrB b_P_Sign b_P_Digits b_Q_Sign b_Q_Digits) ((Fr.fq a_P_Sign a_P_Digits a_Q_Digits) * (Fr.fq b_P_Sign b_P_Digits b_Q_Digits))), (G4 10).ss 0⟩) (DBig.mk n4 ⟨(Fr.rE (Fr.FrB a_P_Sign a_P_Digits a_Q_Sign a_Q_Digits ∧ Fr.FrB b_P_Sign b_P_Digits b_Q_Sign b_Q_Digits) ((Fr.fq a_P_Sign a_P_Digits a_Q_Digits) * (Fr.fq b_P_Sign b_P_Digits b_Q_Digits))), (G4 10).ss 1⟩)), iv n5]) (fun _ _ => by kernel_rfl) (fun _ _ => (Eq.trans (by kernel_rfl) (cong3 (fun (x0 : Int) (x2 : Int) (x4 : Int) => (.tuple #[.agg #[iv x0, ((G4 10).ss 0).v, iv x2, ((G4 10).ss 1).v], iv x4] : Value)) e0 e2 e4)).trans (by kernel_rfl)) (fun _ _ => trivial)
theorem fmul_ctv (a_P_Sign : Int) (a_P_Digits : List Int) (a_P_Digitss : SV) (a_Q_Sign : Int) (a_Q_Digits : List Int) (a_Q_Digitss : SV) (b_P_Sign : Int) (b_P_Digits : List Int) (b_P_Digitss : SV) (b_Q_Sign : Int) (b_Q_Digits : List Int) (b_Q_Digitss : SV) (haP : a_P_Digits.length ≤ 17179869184) (haQ : a_Q_Digits.length ≤ 17179869184) (hbP : b_P_Digits.length ≤ 17179869184) (hbQ : b_Q_Digits.length ≤ 17179869184) (rv0 : Int) (erv0 : rv0 = Fr.rS (Fr.FrB a_P_Sign a_P_Digits a_Q_Sign a_Q_Digits ∧ Fr.FrB b_P_Sign b_P_Digits b_Q_Sign b_Q_Digits) ((Fr.fq a_P_Sign a_P_Digits a_Q_Digits) * (Fr.fq b_P_Sign b_P_Digits b_Q_Digits))) (rv1 : List Int) (erv1 : rv1 = Fr.rD (Fr.FrB a_P_Sign a_P_Digits a_Q_Sign a_Q_Digits ∧ Fr.FrB b_P_Sign b_P_Digits b_Q_Sign b_Q_Digits) ((Fr.fq a_P_Sign a_P_Digits a_Q_Digits) * (Fr.fq b_P_Sign b_P_Digits b_Q_Digits))) (rv2 : Int) (erv2 : rv2 = Fr.rT (Fr.FrB a_P_Sign a_P_Digits a_Q_Sign a_Q_Digits ∧ Fr.FrB b_P_Sign b_P_Digits b_Q_Sign b_Q_Digits)) (rv3 : List Int) (erv3 : rv3 = Fr.rE (Fr.FrB a_P_Sign a_P_Digits a_Q_Sign a_Q_Digits ∧ Fr.FrB b_P_Sign b_P_Digits b_Q_Sign b_Q_Digits) ((Fr.fq a_P_Sign a_P_Digits a_Q_Digits) * (Fr.fq b_P_Sign b_P_Digits b_Q_Digits))) (rv4 : Int) (erv4 : rv4 = if ¬ (Fr.FrB a_P_Sign a_P_Digits a_Q_Sign a_Q_Digits ∧ Fr.FrB b_P_Sign b_P_Digits b_Q_Sign b_Q_Digits) then (1 : Int) else 0) :
    Ct Try.prog 20 #[ag (DFrac.mk (DBig.mk a_P_Sign ⟨a_P_Digits, a_P_Digitss⟩) (DBig.mk a_Q_Sign ⟨a_Q_Digits, a_Q_Digitss⟩)), ag (DFrac.mk (DBig.mk b_P_Sign ⟨b_P_Digits, b_P_Digitss⟩) (DBig.mk b_Q_Sign ⟨b_Q_Digits, b_Q_Digitss⟩))] [fs true a_P_Digits a_P_Digitss, fs true a_Q_Digits a_Q_Digitss, fs true b_P_Digits b_P_Digitss, fs true b_Q_Digits b_Q_Digitss] [] (fun g => .tuple #[ag (DFrac.mk (DBig.mk rv0 ⟨rv1, (g.ss 0)⟩) (DBig.mk rv2 ⟨rv3, (g.ss 1)⟩)), iv rv4]) (fun g => [fs true rv1 (g.ss 0), fs true rv3 (g.ss 1)]) (fun g => []) (fun g => []) := by
  subst erv0 erv1 erv2 erv3 erv4; exact fmul_ct a_P_Sign a_P_Digits a_P_Digitss a_Q_Sign a_Q_Digits a_Q_Digitss b_P_Sign b_P_Digits b_P_Digitss b_Q_Sign b_Q_Digits b_Q_Digitss haP haQ hbP hbQ
set_option maxRecDepth 10000 in
theorem fsub_ct (a_P_Sign : Int) (a_P_Digits : List Int) (a_P_Digitss : SV) (a_Q_Sign : Int) (a_Q_Digits : List Int) (a_Q_Digitss : SV) (b_P_Sign : Int) (b_P_Digits : List Int) (b_P_Digitss : SV) (b_Q_Sign : Int) (b_Q_Digits : List Int) (b_Q_Digitss : SV) (haP : a_P_Digits.length ≤ 17179869184) (haQ : a_Q_Digits.length ≤ 17179869184) (hbP : b_P_Digits.length ≤ 17179869184) (hbQ : b_Q_Digits.length ≤ 17179869184) :
    Ct Try.prog 72 #[ag (DFrac.mk (DBig.mk a_P_Sign ⟨a_P_Digits, a_P_Digitss⟩) (DBig.mk a_Q_Sign ⟨a_Q_Digits, a_Q_Digitss⟩)), ag (DFrac.mk (DBig.mk b_P_Sign ⟨b_P_Digits, b_P_Digitss⟩) (DBig.mk b_Q_Sign ⟨b_Q_Digits, b_Q_Digitss⟩))] [fs true a_P_Digits a_P_Digitss, fs true a_Q_Digits a_Q_Digitss, fs true b_P_Digits b_P_Digitss, fs true b_Q_Digits b_Q_Digitss] [] (fun g => .tuple #[ag (DFrac.mk (DBig.mk (Fr.rS (Fr.FrB a_P_Sign a_P_Digits a_Q_Sign a_Q_Digits ∧ Fr.FrB b_P_Sign b_P_Digits b_Q_Sign b_Q_Digits) ((Fr.fq a_P_Sign a_P_Digits a_Q_Digits) - (Fr.fq b_P_Sign b_P_Digits b_Q_Digits))) ⟨Fr.rD (Fr.FrB a_P_Sign a_P_Digits a_Q_Sign a_Q_Digits ∧ Fr.FrB b_P_Sign b_P_Digits b_Q_Sign b_Q_Digits) ((Fr.fq a_P_Sign a_P_Digits a_Q_Digits) - (Fr.fq b_P_Sign b_P_Digits b_Q_Digits)), (g.ss 0)⟩) (DBig.mk (Fr.rT (Fr.FrB a_P_Sign a_P_Digits a_Q_Sign a_Q_Digits ∧ Fr.FrB b_P_Sign b_P_Digits b_Q_Sign b_Q_Digits)) ⟨Fr.rE (Fr.FrB a_P_Sign a_P_Digits a_Q_Sign a_Q_Digits ∧ Fr.FrB b_P_Sign b_P_Digits b_Q_Sign b_Q_Digits) ((Fr.fq a_P_Sign a_P_Digits a_Q_Digits) - (Fr.fq b_P_Sign b_P_Digits b_Q_Digits)), (g.ss 1)⟩)), iv (if ¬ (Fr.FrB a_P_Sign a_P_Digits a_Q_Sign a_Q_Digits ∧ Fr.FrB b_P_Sign b_P_Digits b_Q_Sign b_Q_Digits) then (1 : Int) else 0)]) (fun g => [fs true (Fr.rD (Fr.FrB a_P_Sign a_P_Digits a_Q_Sign a_Q_Digits ∧ Fr.FrB b_P_Sign b_P_Digits b_Q_Sign b_Q_Digits) ((Fr.fq a_P_Sign a_P_Digits a_Q_Digits) - (Fr.fq b_P_Sign b_P_Digits b_Q_Digits))) (g.ss 0), fs true (Fr.rE (Fr.FrB a_P_Sign a_P_Digits a_Q_Sign a_Q_Digits ∧ Fr.FrB b_P_Sign b_P_Digits b_Q_Sign b_Q_Digits) ((Fr.fq a_P_Sign a_P_Digits a_Q_Digits) - (Fr.fq b_P_Sign b_P_Digits b_Q_Digits))) (g.ss 1)]) (fun g => []) (fun g => []) := by
  refine V.fn mo Try.func72 25 3 (by kernel_rfl) fun w H ε k0 => ?_
  obtain ⟨⟨kl1, -⟩, ⟨kl2, -⟩, ⟨kl3, -⟩, ⟨kl4, -⟩, -⟩ : Lq a_P_Digits a_P_Digitss.v ∧ Lq a_Q_Digits a_Q_Digitss.v ∧ Lq b_P_Digits b_P_Digitss.v ∧ Lq b_Q_Digits b_Q_Digitss.v ∧ True := kn k0 (by kernel_rfl)
  clear k0
  refine V.g [.nb 0 0 (fun b => pp b 0) 30 (fun _ => ca (DFrac.mk (DBig.mk a_P_Sign ⟨a_P_Digits, a_P_Digitss⟩) (DBig.mk a_Q_Sign ⟨a_Q_Digits, a_Q_Digitss⟩))),.nb 1 1 (fun b => pp b 0) 30 (fun _ => ca (DFrac.mk (DBig.mk b_P_Sign ⟨b_P_Digits, b_P_Digitss⟩) (DBig.mk b_Q_Sign ⟨b_Q_Digits, b_Q_Digitss⟩))),.nb 2 2 (fun b => pp b 0) 30 (fun _ => ca (DFrac.mk (DBig.mk 0 ⟨[], {}⟩) (DBig.mk 0 ⟨[], {}⟩))),.k (iv 0)] fun _ _ G1 => ?_
  intro S_ s_
  refine nm ((!(decide (Fr.FrB a_P_Sign a_P_Digits a_Q_Sign a_Q_Digits))) || (!(decide (Fr.FrB b_P_Sign b_P_Digits b_Q_Sign b_Q_Digits))) : Bool) fun p1 hp1 => ?_
  refine V.g [.ld 0 0 true (fun _ => Dat.cells (DFrac.mk (DBig.mk a_P_Sign ⟨a_P_Digits, a_P_Digitss⟩) (DBig.mk a_Q_Sign ⟨a_Q_Digits, a_Q_Digitss⟩))),.cp g0 1 24 [(kf false (.f 0) a_P_Digits (fun _ => a_P_Digitss)).a, (kf false (.f 1) a_Q_Digits (fun _ => a_Q_Digitss)).a] (fun _ G => right_ct a_P_Sign a_P_Digits a_P_Digitss a_Q_Sign a_Q_Digits a_Q_Digitss (by omega) (by omega)),.k (bv (!(decide (Fr.FrB a_P_Sign a_P_Digits a_Q_Sign a_Q_Digits)))),.k (bv (!(decide (Fr.FrB a_P_Sign a_P_Digits a_Q_Sign a_Q_Digits)))),.ld 1 0 true (fun _ => Dat.cells (DFrac.mk (DBig.mk b_P_Sign ⟨b_P_Digits, b_P_Digitss⟩) (DBig.mk b_Q_Sign ⟨b_Q_Digits, b_Q_Digitss⟩))),.cp (gF (b := !(decide (Fr.FrB a_P_Sign a_P_Digits a_Q_Sign a_Q_Digits))) (iNF iDT)) 5 24 [(kf false (.f 2) b_P_Digits (fun _ => b_P_Digitss)).a, (kf false (.f 3) b_Q_Digits (fun _ => b_Q_Digitss)).a] (fun hg G => right_ct b_P_Sign b_P_Digits b_P_Digitss b_Q_Sign b_Q_Digits b_Q_Digitss (by omega) (by omega)),.k (bv (!(decide (Fr.FrB b_P_Sign b_P_Digits b_Q_Sign b_Q_Digits)))),.orn g0 false (!(decide (Fr.FrB a_P_Sign a_P_Digits a_Q_Sign a_Q_Digits))) (!(decide (Fr.FrB b_P_Sign b_P_Digits b_Q_Sign b_Q_Digits))) p1 hp1] fun _ _ G2 => ?_
  intro S_ s_
  refine V.cond (b := p1) (iN hp1 (iOT (iNT iDF) (iNT iDF))) (iN hp1 (iOF (iNF iDT) (iNF iDT))) (by kernel_rfl) (fun q1 => ?_) (fun q2 => ?_)
  · have hNR : ¬ (Fr.FrB a_P_Sign a_P_Digits a_Q_Sign a_Q_Digits ∧ Fr.FrB b_P_Sign b_P_Digits b_Q_Sign b_Q_Digits) := by rintro ⟨h1, h2⟩; rcases q1 with h | h; exact h h1; exact h h2
    refine V.g [.k (ag (DFrac.mk (DBig.mk 0 ⟨[], {}⟩) (DBig.mk 0 ⟨[], {}⟩))),.st 2 (fun _ => .blk ((G1 2).b) (ca (DFrac.mk (DBig.mk 0 ⟨[], {}⟩) (DBig.mk 0 ⟨[], {}⟩))) 30),.k (iv 1)] fun _ _ G3 => ?_
    intro S_ s_
    refine V.nilF (α := Int) ?_
    refine V.nilF (α := Int) ?_
    have e1 : ([] : List Int) = Fr.rD (Fr.FrB a_P_Sign a_P_Digits a_Q_Sign a_Q_Digits ∧ Fr.FrB b_P_Sign b_P_Digits b_Q_Sign b_Q_Digits) ((Fr.fq a_P_Sign a_P_Digits a_Q_Digits) - (Fr.fq b_P_Sign b_P_Digits b_Q_Digits)) := (Fr.Fz.no hNR ((Fr.fq a_P_Sign a_P_Digits a_Q_Digits) - (Fr.fq b_P_Sign b_P_Digits b_Q_Digits))).2.1
    rw [← e1]
    have e3 : ([] : List Int) = Fr.rE (Fr.FrB a_P_Sign a_P_Digits a_Q_Sign a_Q_Digits ∧ Fr.FrB b_P_Sign b_P_Digits b_Q_Sign b_Q_Digits) ((Fr.fq a_P_Sign a_P_Digits a_Q_Digits) - (Fr.fq b_P_Sign b_P_Digits b_Q_Digits)) := (Fr.Fz.no hNR ((Fr.fq a_P_Sign a_P_Digits a_Q_Digits) - (Fr.fq b_P_Sign b_P_Digits b_Q_Digits))).2.2.2
    rw [← e3]
    have e0 : (0 : Int) = Fr.rS (Fr.FrB a_P_Sign a_P_Digits a_Q_Sign a_Q_Digits ∧ Fr.FrB b_P_Sign b_P_Digits b_Q_Sign b_Q_Digits) ((Fr.fq a_P_Sign a_P_Digits a_Q_Digits) - (Fr.fq b_P_Sign b_P_Digits b_Q_Digits)) := (Fr.Fz.no hNR ((Fr.fq a_P_Sign a_P_Digits a_Q_Digits) - (Fr.fq b_P_Sign b_P_Digits b_Q_Digits))).1
    have e2 : (0 : Int) = Fr.rT (Fr.FrB a_P_Sign a_P_Digits a_Q_Sign a_Q_Digits ∧ Fr.FrB b_P_Sign b_P_Digits b_Q_Sign b_Q_Digits) := (Fr.Fz.no hNR ((Fr.fq a_P_Sign a_P_Digits a_Q_Digits) - (Fr.fq b_P_Sign b_P_Digits b_Q_Digits))).2.2.1
    have e4 : (1 : Int) = if ¬ (Fr.FrB a_P_Sign a_P_Digits a_Q_Sign a_Q_Digits ∧ Fr.FrB b_P_Sign b_P_Digits b_Q_Sign b_Q_Digits) then (1 : Int) else 0 := (if_pos hNR).symm
    exact V.ret [2, 0] [{}, {}] [fun _ => {}, fun _ => {}] [] [4, 5] [] (.tuple #[ag (DFrac.mk (DBig.mk 0 ⟨([] : List Int), {}⟩) (DBig.mk 0 ⟨([] : List Int), {}⟩)), iv 1]) (fun _ _ => by kernel_rfl) (fun _ _ => (Eq.trans (by kernel_rfl) (cong3 (fun (x0 : Int) (x2 : Int) (x4 : Int) => (.tuple #[.agg #[iv x0, SV.v ({}), iv x2, SV.v ({})], iv x4] : Value)) e0 e2 e4)).trans (by kernel_rfl)) (fun _ _ => trivial)
  have hRR : Fr.FrB a_P_Sign a_P_Digits a_Q_Sign a_Q_Digits ∧ Fr.FrB b_P_Sign b_P_Digits b_Q_Sign b_Q_Digits := by first | exact q2 | exact ⟨Decidable.not_not.1 (q2).1, Decidable.not_not.1 (q2).2⟩
  have fa := Fr.FrB.z hRR.1; have fb := Fr.FrB.z hRR.2
  refine nm (Bg.oS (Bg.RtB b_P_Sign b_P_Digits) (-Bg.zv b_P_Sign b_P_Digits) : Int) fun n1 hn1 => ?_
  refine nm (Bg.oD (Bg.RtB b_P_Sign b_P_Digits) (-Bg.zv b_P_Sign b_P_Digits) : List Int) fun l1 hl1 => ?_
  have hl1n := congrArg List.length hl1
  refine nm (Fr.rS (Fr.FrB a_P_Sign a_P_Digits a_Q_Sign a_Q_Digits ∧ Fr.FrB n1 l1 b_Q_Sign b_Q_Digits) ((Fr.fq a_P_Sign a_P_Digits a_Q_Digits) + (Fr.fq n1 l1 b_Q_Digits)) : Int) fun n2 hn2 => ?_
  refine nm (Fr.rD (Fr.FrB a_P_Sign a_P_Digits a_Q_Sign a_Q_Digits ∧ Fr.FrB n1 l1 b_Q_Sign b_Q_Digits) ((Fr.fq a_P_Sign a_P_Digits a_Q_Digits) + (Fr.fq n1 l1 b_Q_Digits)) : List Int) fun l2 hl2 => ?_
  have hl2n := congrArg List.length hl2
  refine nm (Fr.rT (Fr.FrB a_P_Sign a_P_Digits a_Q_Sign a_Q_Digits ∧ Fr.FrB n1 l1 b_Q_Sign b_Q_Digits) : Int) fun n3 hn3 => ?_
  refine nm (Fr.rE (Fr.FrB a_P_Sign a_P_Digits a_Q_Sign a_Q_Digits ∧ Fr.FrB n1 l1 b_Q_Sign b_Q_Digits) ((Fr.fq a_P_Sign a_P_Digits a_Q_Digits) + (Fr.fq n1 l1 b_Q_Digits)) : List Int) fun l3 hl3 => ?_
  have hl3n := congrArg List.length hl3
  refine nm (if ¬ (Fr.FrB a_P_Sign a_P_Digits a_Q_Sign a_Q_Digits ∧ Fr.FrB n1 l1 b_Q_Sign b_Q_Digits) then (1 : Int) else 0 : Int) fun n4 hn4 => ?_
  have fn := Fr.FrB.neg fb hn1 hl1
  have fnl := (fb.p.neg hn1 hl1).2
  have hRN := And.intro hRR.1 fn.rt
  have zf := Fr.Fz.of hRN hn2 hl2 hn3 hl3
  rw [fn.v] at zf
  have hEr : n4 = 0 := by rw [hn4, if_neg (fun h => h hRN)]
  have heq := (Rat.sub_eq_add_neg (Fr.fq a_P_Sign a_P_Digits a_Q_Digits) (Fr.fq b_P_Sign b_P_Digits b_Q_Digits)).symm
  refine V.r [.ld 0 0 true (fun _ => Dat.cells (DFrac.mk (DBig.mk a_P_Sign ⟨a_P_Digits, a_P_Digitss⟩) (DBig.mk a_Q_Sign ⟨a_Q_Digits, a_Q_Digitss⟩))),.k (pp ((G1 1).b) 0),.ld 1 0 true (fun _ => Dat.cells (DBig.mk b_P_Sign ⟨b_P_Digits, b_P_Digitss⟩)),.ct g0 3 93 false [] [] [(kf false (.f 2) b_P_Digits (fun _ => b_P_Digitss)).a] (fun _ G => neg_ctv b_P_Sign b_P_Digits b_P_Digitss (by omega) n1 hn1 l1 hl1),.k (pp ((G1 1).b) 2),.ld 1 2 true (fun _ => Dat.cells (DBig.mk b_Q_Sign ⟨b_Q_Digits, b_Q_Digitss⟩)),.v fun G => ag (DFrac.mk (DBig.mk n1 ⟨l1, (G 3).ss 0⟩) (DBig.mk b_Q_Sign ⟨b_Q_Digits, b_Q_Digitss⟩)),.ct g0 7 33 false [] [] [(kf false (.f 0) a_P_Digits (fun _ => a_P_Digitss)).a, (kf false (.f 1) a_Q_Digits (fun _ => a_Q_Digitss)).a, (kf true (.g 3 0) l1 (fun G => (G 3).ss 0)).a, (kf false (.f 3) b_Q_Digits (fun _ => b_Q_Digitss)).a] (fun _ G => fadd_ctv a_P_Sign a_P_Digits a_P_Digitss a_Q_Sign a_Q_Digits a_Q_Digitss n1 l1 ((G 3).ss 0) b_Q_Sign b_Q_Digits b_Q_Digitss (by omega) (by omega) (by omega) (by omega) n2 hn2 l2 hl2 n3 hn3 l3 hl3 n4 hn4),.v fun G => ag (DFrac.mk (DBig.mk n2 ⟨l2, (G 7).ss 0⟩) (DBig.mk n3 ⟨l3, (G 7).ss 1⟩)),.k (iv n4),.st 2 (fun G => .blk ((G1 2).b) (ca (DFrac.mk (DBig.mk n2 ⟨l2, (G 7).ss 0⟩) (DBig.mk n3 ⟨l3, (G 7).ss 1⟩))) 30),.k (iv n4)] fun _ _ G4 kw4 => ?_
  intro S_ s_
  obtain ⟨⟨kl5, -⟩, ⟨kl6, -⟩, ⟨kl7, -⟩, -⟩ : Lq l1 (((G4 3).ss 0).v) ∧ Lq l2 (((G4 7).ss 0).v) ∧ Lq l3 (((G4 7).ss 1).v) ∧ True := kn kw4 (by kernel_rfl)
  clear kw4
  have e1 : l2 = Fr.rD (Fr.FrB a_P_Sign a_P_Digits a_Q_Sign a_Q_Digits ∧ Fr.FrB b_P_Sign b_P_Digits b_Q_Sign b_Q_Digits) ((Fr.fq a_P_Sign a_P_Digits a_Q_Digits) - (Fr.fq b_P_Sign b_P_Digits b_Q_Digits)) := (Fr.Fz.ret zf hRR (heq)).2.1
  subst e1
  have e3 : l3 = Fr.rE (Fr.FrB a_P_Sign a_P_Digits a_Q_Sign a_Q_Digits ∧ Fr.FrB b_P_Sign b_P_Digits b_Q_Sign b_Q_Digits) ((Fr.fq a_P_Sign a_P_Digits a_Q_Digits) - (Fr.fq b_P_Sign b_P_Digits b_Q_Digits)) := (Fr.Fz.ret zf hRR (heq)).2.2.2
  subst e3
  have e0 : n2 = Fr.rS (Fr.FrB a_P_Sign a_P_Digits a_Q_Sign a_Q_Digits ∧ Fr.FrB b_P_Sign b_P_Digits b_Q_Sign b_Q_Digits) ((Fr.fq a_P_Sign a_P_Digits a_Q_Digits) - (Fr.fq b_P_Sign b_P_Digits b_Q_Digits)) := (Fr.Fz.ret zf hRR (heq)).1
  have e2 : n3 = Fr.rT (Fr.FrB a_P_Sign a_P_Digits a_Q_Sign a_Q_Digits ∧ Fr.FrB b_P_Sign b_P_Digits b_Q_Sign b_Q_Digits) := (Fr.Fz.ret zf hRR (heq)).2.2.1
  have e4 : n4 = if ¬ (Fr.FrB a_P_Sign a_P_Digits a_Q_Sign a_Q_Digits ∧ Fr.FrB b_P_Sign b_P_Digits b_Q_Sign b_Q_Digits) then (1 : Int) else 0 := by rw [if_neg (fun h => h hRR)]; exact hEr
  exact V.ret [2, 0] [(G4 7).ss 0, (G4 7).ss 1] [fun _ => {}, fun _ => {}] [] [5, 6] [] (.tuple #[ag (DFrac.mk (DBig.mk n2 ⟨(Fr.rD (Fr.FrB a_P_Sign a_P_Digits a_Q_Sign a_Q_Digits ∧ Fr.FrB b_P_Sign b_P_Digits b_Q_Sign b_Q_Digits) ((Fr.fq a_P_Sign a_P_Digits a_Q_Digits) - (Fr.fq b_P_Sign b_P_Digits b_Q_Digits))), (G4 7).ss 0⟩) (DBig.mk n3 ⟨(Fr.rE (Fr.FrB a_P_Sign a_P_Digits a_Q_Sign a_Q_Digits ∧ Fr.FrB b_P_Sign b_P_Digits b_Q_Sign b_Q_Digits) ((Fr.fq a_P_Sign a_P_Digits a_Q_Digits) - (Fr.fq b_P_Sign b_P_Digits b_Q_Digits))), (G4 7).ss 1⟩)), iv n4]) (fun _ _ => by kernel_rfl) (fun _ _ => (Eq.trans (by kernel_rfl) (cong3 (fun (x0 : Int) (x2 : Int) (x4 : Int) => (.tuple #[.agg #[iv x0, ((G4 7).ss 0).v, iv x2, ((G4 7).ss 1).v], iv x4] : Value)) e0 e2 e4)).trans (by kernel_rfl)) (fun _ _ => trivial)
theorem fsub_ctv (a_P_Sign : Int) (a_P_Digits : List Int) (a_P_Digitss : SV) (a_Q_Sign : Int) (a_Q_Digits : List Int) (a_Q_Digitss : SV) (b_P_Sign : Int) (b_P_Digits : List Int) (b_P_Digitss : SV) (b_Q_Sign : Int) (b_Q_Digits : List Int) (b_Q_Digitss : SV) (haP : a_P_Digits.length ≤ 17179869184) (haQ : a_Q_Digits.length ≤ 17179869184) (hbP : b_P_Digits.length ≤ 17179869184) (hbQ : b_Q_Digits.length ≤ 17179869184) (rv0 : Int) (erv0 : rv0 = Fr.rS (Fr.FrB a_P_Sign a_P_Digits a_Q_Sign a_Q_Digits ∧ Fr.FrB b_P_Sign b_P_Digits b_Q_Sign b_Q_Digits) ((Fr.fq a_P_Sign a_P_Digits a_Q_Digits) - (Fr.fq b_P_Sign b_P_Digits b_Q_Digits))) (rv1 : List Int) (erv1 : rv1 = Fr.rD (Fr.FrB a_P_Sign a_P_Digits a_Q_Sign a_Q_Digits ∧ Fr.FrB b_P_Sign b_P_Digits b_Q_Sign b_Q_Digits) ((Fr.fq a_P_Sign a_P_Digits a_Q_Digits) - (Fr.fq b_P_Sign b_P_Digits b_Q_Digits))) (rv2 : Int) (erv2 : rv2 = Fr.rT (Fr.FrB a_P_Sign a_P_Digits a_Q_Sign a_Q_Digits ∧ Fr.FrB b_P_Sign b_P_Digits b_Q_Sign b_Q_Digits)) (rv3 : List Int) (erv3 : rv3 = Fr.rE (Fr.FrB a_P_Sign a_P_Digits a_Q_Sign a_Q_Digits ∧ Fr.FrB b_P_Sign b_P_Digits b_Q_Sign b_Q_Digits) ((Fr.fq a_P_Sign a_P_Digits a_Q_Digits) - (Fr.fq b_P_Sign b_P_Digits b_Q_Digits))) (rv4 : Int) (erv4 : rv4 = if ¬ (Fr.FrB a_P_Sign a_P_Digits a_Q_Sign a_Q_Digits ∧ Fr.FrB b_P_Sign b_P_Digits b_Q_Sign b_Q_Digits) then (1 : Int) else 0) :
    Ct Try.prog 72 #[ag (DFrac.mk (DBig.mk a_P_Sign ⟨a_P_Digits, a_P_Digitss⟩) (DBig.mk a_Q_Sign ⟨a_Q_Digits, a_Q_Digitss⟩)), ag (DFrac.mk (DBig.mk b_P_Sign ⟨b_P_Digits, b_P_Digitss⟩) (DBig.mk b_Q_Sign ⟨b_Q_Digits, b_Q_Digitss⟩))] [fs true a_P_Digits a_P_Digitss, fs true a_Q_Digits a_Q_Digitss, fs true b_P_Digits b_P_Digitss, fs true b_Q_Digits b_Q_Digitss] [] (fun g => .tuple #[ag (DFrac.mk (DBig.mk rv0 ⟨rv1, (g.ss 0)⟩) (DBig.mk rv2 ⟨rv3, (g.ss 1)⟩)), iv rv4]) (fun g => [fs true rv1 (g.ss 0), fs true rv3 (g.ss 1)]) (fun g => []) (fun g => []) := by
  subst erv0 erv1 erv2 erv3 erv4; exact fsub_ct a_P_Sign a_P_Digits a_P_Digitss a_Q_Sign a_Q_Digits a_Q_Digitss b_P_Sign b_P_Digits b_P_Digitss b_Q_Sign b_Q_Digits b_Q_Digitss haP haQ hbP hbQ
set_option maxRecDepth 10000 in
theorem fdiv_ct (a_P_Sign : Int) (a_P_Digits : List Int) (a_P_Digitss : SV) (a_Q_Sign : Int) (a_Q_Digits : List Int) (a_Q_Digitss : SV) (b_P_Sign : Int) (b_P_Digits : List Int) (b_P_Digitss : SV) (b_Q_Sign : Int) (b_Q_Digits : List Int) (b_Q_Digitss : SV) (haP : a_P_Digits.length ≤ 17179869184) (haQ : a_Q_Digits.length ≤ 17179869184) (hbP : b_P_Digits.length ≤ 17179869184) (hbQ : b_Q_Digits.length ≤ 17179869184) :
    Ct Try.prog 40 #[ag (DFrac.mk (DBig.mk a_P_Sign ⟨a_P_Digits, a_P_Digitss⟩) (DBig.mk a_Q_Sign ⟨a_Q_Digits, a_Q_Digitss⟩)), ag (DFrac.mk (DBig.mk b_P_Sign ⟨b_P_Digits, b_P_Digitss⟩) (DBig.mk b_Q_Sign ⟨b_Q_Digits, b_Q_Digitss⟩))] [fs true a_P_Digits a_P_Digitss, fs true a_Q_Digits a_Q_Digitss, fs true b_P_Digits b_P_Digitss, fs true b_Q_Digits b_Q_Digitss] [] (fun g => .tuple #[ag (DFrac.mk (DBig.mk (Fr.rS ((Fr.FrB a_P_Sign a_P_Digits a_Q_Sign a_Q_Digits ∧ Fr.FrB b_P_Sign b_P_Digits b_Q_Sign b_Q_Digits) ∧ b_P_Sign ≠ 0) ((Fr.fq a_P_Sign a_P_Digits a_Q_Digits) / (Fr.fq b_P_Sign b_P_Digits b_Q_Digits))) ⟨Fr.rD ((Fr.FrB a_P_Sign a_P_Digits a_Q_Sign a_Q_Digits ∧ Fr.FrB b_P_Sign b_P_Digits b_Q_Sign b_Q_Digits) ∧ b_P_Sign ≠ 0) ((Fr.fq a_P_Sign a_P_Digits a_Q_Digits) / (Fr.fq b_P_Sign b_P_Digits b_Q_Digits)), (g.ss 0)⟩) (DBig.mk (Fr.rT ((Fr.FrB a_P_Sign a_P_Digits a_Q_Sign a_Q_Digits ∧ Fr.FrB b_P_Sign b_P_Digits b_Q_Sign b_Q_Digits) ∧ b_P_Sign ≠ 0)) ⟨Fr.rE ((Fr.FrB a_P_Sign a_P_Digits a_Q_Sign a_Q_Digits ∧ Fr.FrB b_P_Sign b_P_Digits b_Q_Sign b_Q_Digits) ∧ b_P_Sign ≠ 0) ((Fr.fq a_P_Sign a_P_Digits a_Q_Digits) / (Fr.fq b_P_Sign b_P_Digits b_Q_Digits)), (g.ss 1)⟩)), iv (if ¬ (Fr.FrB a_P_Sign a_P_Digits a_Q_Sign a_Q_Digits ∧ Fr.FrB b_P_Sign b_P_Digits b_Q_Sign b_Q_Digits) then (1 : Int) else if b_P_Sign = 0 then 15 else 0)]) (fun g => [fs true (Fr.rD ((Fr.FrB a_P_Sign a_P_Digits a_Q_Sign a_Q_Digits ∧ Fr.FrB b_P_Sign b_P_Digits b_Q_Sign b_Q_Digits) ∧ b_P_Sign ≠ 0) ((Fr.fq a_P_Sign a_P_Digits a_Q_Digits) / (Fr.fq b_P_Sign b_P_Digits b_Q_Digits))) (g.ss 0), fs true (Fr.rE ((Fr.FrB a_P_Sign a_P_Digits a_Q_Sign a_Q_Digits ∧ Fr.FrB b_P_Sign b_P_Digits b_Q_Sign b_Q_Digits) ∧ b_P_Sign ≠ 0) ((Fr.fq a_P_Sign a_P_Digits a_Q_Digits) / (Fr.fq b_P_Sign b_P_Digits b_Q_Digits))) (g.ss 1)]) (fun g => []) (fun g => []) := by
  refine V.fn mo Try.func40 35 3 (by kernel_rfl) fun w H ε k0 => ?_
  obtain ⟨⟨kl1, -⟩, ⟨kl2, -⟩, ⟨kl3, -⟩, ⟨kl4, -⟩, -⟩ : Lq a_P_Digits a_P_Digitss.v ∧ Lq a_Q_Digits a_Q_Digitss.v ∧ Lq b_P_Digits b_P_Digitss.v ∧ Lq b_Q_Digits b_Q_Digitss.v ∧ True := kn k0 (by kernel_rfl)
  clear k0
  refine V.g [.nb 0 0 (fun b => pp b 0) 30 (fun _ => ca (DFrac.mk (DBig.mk a_P_Sign ⟨a_P_Digits, a_P_Digitss⟩) (DBig.mk a_Q_Sign ⟨a_Q_Digits, a_Q_Digitss⟩))),.nb 1 1 (fun b => pp b 0) 30 (fun _ => ca (DFrac.mk (DBig.mk b_P_Sign ⟨b_P_Digits, b_P_Digitss⟩) (DBig.mk b_Q_Sign ⟨b_Q_Digits, b_Q_Digitss⟩))),.nb 2 2 (fun b => pp b 0) 30 (fun _ => ca (DFrac.mk (DBig.mk 0 ⟨[], {}⟩) (DBig.mk 0 ⟨[], {}⟩))),.k (iv 0)] fun _ _ G1 => ?_
  intro S_ s_
  refine nm ((!(decide (Fr.FrB a_P_Sign a_P_Digits a_Q_Sign a_Q_Digits))) || (!(decide (Fr.FrB b_P_Sign b_P_Digits b_Q_Sign b_Q_Digits))) : Bool) fun p1 hp1 => ?_
  refine V.g [.ld 0 0 true (fun _ => Dat.cells (DFrac.mk (DBig.mk a_P_Sign ⟨a_P_Digits, a_P_Digitss⟩) (DBig.mk a_Q_Sign ⟨a_Q_Digits, a_Q_Digitss⟩))),.cp g0 1 24 [(kf false (.f 0) a_P_Digits (fun _ => a_P_Digitss)).a, (kf false (.f 1) a_Q_Digits (fun _ => a_Q_Digitss)).a] (fun _ G => right_ct a_P_Sign a_P_Digits a_P_Digitss a_Q_Sign a_Q_Digits a_Q_Digitss (by omega) (by omega)),.k (bv (!(decide (Fr.FrB a_P_Sign a_P_Digits a_Q_Sign a_Q_Digits)))),.k (bv (!(decide (Fr.FrB a_P_Sign a_P_Digits a_Q_Sign a_Q_Digits)))),.ld 1 0 true (fun _ => Dat.cells (DFrac.mk (DBig.mk b_P_Sign ⟨b_P_Digits, b_P_Digitss⟩) (DBig.mk b_Q_Sign ⟨b_Q_Digits, b_Q_Digitss⟩))),.cp (gF (b := !(decide (Fr.FrB a_P_Sign a_P_Digits a_Q_Sign a_Q_Digits))) (iNF iDT)) 5 24 [(kf false (.f 2) b_P_Digits (fun _ => b_P_Digitss)).a, (kf false (.f 3) b_Q_Digits (fun _ => b_Q_Digitss)).a] (fun hg G => right_ct b_P_Sign b_P_Digits b_P_Digitss b_Q_Sign b_Q_Digits b_Q_Digitss (by omega) (by omega)),.k (bv (!(decide (Fr.FrB b_P_Sign b_P_Digits b_Q_Sign b_Q_Digits)))),.orn g0 false (!(decide (Fr.FrB a_P_Sign a_P_Digits a_Q_Sign a_Q_Digits))) (!(decide (Fr.FrB b_P_Sign b_P_Digits b_Q_Sign b_Q_Digits))) p1 hp1,.k (bv p1)] fun _ _ G2 => ?_
  intro S_ s_
  refine V.cond (b := p1) (iN hp1 (iOT (iNT iDF) (iNT iDF))) (iN hp1 (iOF (iNF iDT) (iNF iDT))) (by kernel_rfl) (fun q1 => ?_) (fun q2 => ?_)
  · have hNR : ¬ (Fr.FrB a_P_Sign a_P_Digits a_Q_Sign a_Q_Digits ∧ Fr.FrB b_P_Sign b_P_Digits b_Q_Sign b_Q_Digits) := by rintro ⟨h1, h2⟩; rcases q1 with h | h; exact h h1; exact h h2
    refine V.g [.k (ag (DFrac.mk (DBig.mk 0 ⟨[], {}⟩) (DBig.mk 0 ⟨[], {}⟩))),.st 2 (fun _ => .blk ((G1 2).b) (ca (DFrac.mk (DBig.mk 0 ⟨[], {}⟩) (DBig.mk 0 ⟨[], {}⟩))) 30),.k (iv 1)] fun _ _ G3 => ?_
    intro S_ s_
    refine V.nilF (α := Int) ?_
    refine V.nilF (α := Int) ?_
    have e1 : ([] : List Int) = Fr.rD ((Fr.FrB a_P_Sign a_P_Digits a_Q_Sign a_Q_Digits ∧ Fr.FrB b_P_Sign b_P_Digits b_Q_Sign b_Q_Digits) ∧ b_P_Sign ≠ 0) ((Fr.fq a_P_Sign a_P_Digits a_Q_Digits) / (Fr.fq b_P_Sign b_P_Digits b_Q_Digits)) := (Fr.Fz.no (fun h => hNR h.1) ((Fr.fq a_P_Sign a_P_Digits a_Q_Digits) / (Fr.fq b_P_Sign b_P_Digits b_Q_Digits))).2.1
    rw [← e1]
    have e3 : ([] : List Int) = Fr.rE ((Fr.FrB a_P_Sign a_P_Digits a_Q_Sign a_Q_Digits ∧ Fr.FrB b_P_Sign b_P_Digits b_Q_Sign b_Q_Digits) ∧ b_P_Sign ≠ 0) ((Fr.fq a_P_Sign a_P_Digits a_Q_Digits) / (Fr.fq b_P_Sign b_P_Digits b_Q_Digits)) := (Fr.Fz.no (fun h => hNR h.1) ((Fr.fq a_P_Sign a_P_Digits a_Q_Digits) / (Fr.fq b_P_Sign b_P_Digits b_Q_Digits))).2.2.2
    rw [← e3]
    have e0 : (0 : Int) = Fr.rS ((Fr.FrB a_P_Sign a_P_Digits a_Q_Sign a_Q_Digits ∧ Fr.FrB b_P_Sign b_P_Digits b_Q_Sign b_Q_Digits) ∧ b_P_Sign ≠ 0) ((Fr.fq a_P_Sign a_P_Digits a_Q_Digits) / (Fr.fq b_P_Sign b_P_Digits b_Q_Digits)) := (Fr.Fz.no (fun h => hNR h.1) ((Fr.fq a_P_Sign a_P_Digits a_Q_Digits) / (Fr.fq b_P_Sign b_P_Digits b_Q_Digits))).1
    have e2 : (0 : Int) = Fr.rT ((Fr.FrB a_P_Sign a_P_Digits a_Q_Sign a_Q_Digits ∧ Fr.FrB b_P_Sign b_P_Digits b_Q_Sign b_Q_Digits) ∧ b_P_Sign ≠ 0) := (Fr.Fz.no (fun h => hNR h.1) ((Fr.fq a_P_Sign a_P_Digits a_Q_Digits) / (Fr.fq b_P_Sign b_P_Digits b_Q_Digits))).2.2.1
    have e4 : (1 : Int) = if ¬ (Fr.FrB a_P_Sign a_P_Digits a_Q_Sign a_Q_Digits ∧ Fr.FrB b_P_Sign b_P_Digits b_Q_Sign b_Q_Digits) then (1 : Int) else if b_P_Sign = 0 then 15 else 0 := (if_pos hNR).symm
    exact V.ret [2, 0] [{}, {}] [fun _ => {}, fun _ => {}] [] [4, 5] [] (.tuple #[ag (DFrac.mk (DBig.mk 0 ⟨([] : List Int), {}⟩) (DBig.mk 0 ⟨([] : List Int), {}⟩)), iv 1]) (fun _ _ => by kernel_rfl) (fun _ _ => (Eq.trans (by kernel_rfl) (cong3 (fun (x0 : Int) (x2 : Int) (x4 : Int) => (.tuple #[.agg #[iv x0, SV.v ({}), iv x2, SV.v ({})], iv x4] : Value)) e0 e2 e4)).trans (by kernel_rfl)) (fun _ _ => trivial)
  have hRR : Fr.FrB a_P_Sign a_P_Digits a_Q_Sign a_Q_Digits ∧ Fr.FrB b_P_Sign b_P_Digits b_Q_Sign b_Q_Digits := by first | exact q2 | exact ⟨Decidable.not_not.1 (q2).1, Decidable.not_not.1 (q2).2⟩
  have fa := Fr.FrB.z hRR.1; have fb := Fr.FrB.z hRR.2
  refine V.g [.k (pp ((G1 1).b) 0),.k (pp ((G1 1).b) 0),.ld 1 0 false (fun _ => [iv b_P_Sign]),.k (bv (decide (b_P_Sign = 0))),.k (bv (decide (b_P_Sign = 0)))] fun _ _ G4 => ?_
  intro S_ s_
  refine V.cond (b := decide (b_P_Sign = 0)) iDT iDF (by kernel_rfl) (fun q3 => ?_) (fun q4 => ?_)
  · have hz0 : b_P_Sign = 0 := q3
    refine V.g [.k (ag (DFrac.mk (DBig.mk 0 ⟨[], {}⟩) (DBig.mk 0 ⟨[], {}⟩))),.st 2 (fun _ => .blk ((G1 2).b) (ca (DFrac.mk (DBig.mk 0 ⟨[], {}⟩) (DBig.mk 0 ⟨[], {}⟩))) 30),.k (iv 15)] fun _ _ G5 => ?_
    intro S_ s_
    refine V.nilF (α := Int) ?_
    refine V.nilF (α := Int) ?_
    have e1 : ([] : List Int) = Fr.rD ((Fr.FrB a_P_Sign a_P_Digits a_Q_Sign a_Q_Digits ∧ Fr.FrB b_P_Sign b_P_Digits b_Q_Sign b_Q_Digits) ∧ b_P_Sign ≠ 0) ((Fr.fq a_P_Sign a_P_Digits a_Q_Digits) / (Fr.fq b_P_Sign b_P_Digits b_Q_Digits)) := (Fr.Fz.no (fun h => h.2 hz0) ((Fr.fq a_P_Sign a_P_Digits a_Q_Digits) / (Fr.fq b_P_Sign b_P_Digits b_Q_Digits))).2.1
    rw [← e1]
    have e3 : ([] : List Int) = Fr.rE ((Fr.FrB a_P_Sign a_P_Digits a_Q_Sign a_Q_Digits ∧ Fr.FrB b_P_Sign b_P_Digits b_Q_Sign b_Q_Digits) ∧ b_P_Sign ≠ 0) ((Fr.fq a_P_Sign a_P_Digits a_Q_Digits) / (Fr.fq b_P_Sign b_P_Digits b_Q_Digits)) := (Fr.Fz.no (fun h => h.2 hz0) ((Fr.fq a_P_Sign a_P_Digits a_Q_Digits) / (Fr.fq b_P_Sign b_P_Digits b_Q_Digits))).2.2.2
    rw [← e3]
    have e0 : (0 : Int) = Fr.rS ((Fr.FrB a_P_Sign a_P_Digits a_Q_Sign a_Q_Digits ∧ Fr.FrB b_P_Sign b_P_Digits b_Q_Sign b_Q_Digits) ∧ b_P_Sign ≠ 0) ((Fr.fq a_P_Sign a_P_Digits a_Q_Digits) / (Fr.fq b_P_Sign b_P_Digits b_Q_Digits)) := (Fr.Fz.no (fun h => h.2 hz0) ((Fr.fq a_P_Sign a_P_Digits a_Q_Digits) / (Fr.fq b_P_Sign b_P_Digits b_Q_Digits))).1
    have e2 : (0 : Int) = Fr.rT ((Fr.FrB a_P_Sign a_P_Digits a_Q_Sign a_Q_Digits ∧ Fr.FrB b_P_Sign b_P_Digits b_Q_Sign b_Q_Digits) ∧ b_P_Sign ≠ 0) := (Fr.Fz.no (fun h => h.2 hz0) ((Fr.fq a_P_Sign a_P_Digits a_Q_Digits) / (Fr.fq b_P_Sign b_P_Digits b_Q_Digits))).2.2.1
    have e4 : (15 : Int) = if ¬ (Fr.FrB a_P_Sign a_P_Digits a_Q_Sign a_Q_Digits ∧ Fr.FrB b_P_Sign b_P_Digits b_Q_Sign b_Q_Digits) then (1 : Int) else if b_P_Sign = 0 then 15 else 0 := by rw [if_neg (fun h => h hRR), if_pos hz0]
    exact V.ret [2, 0] [{}, {}] [fun _ => {}, fun _ => {}] [] [4, 5] [] (.tuple #[ag (DFrac.mk (DBig.mk 0 ⟨([] : List Int), {}⟩) (DBig.mk 0 ⟨([] : List Int), {}⟩)), iv 15]) (fun _ _ => by kernel_rfl) (fun _ _ => (Eq.trans (by kernel_rfl) (cong3 (fun (x0 : Int) (x2 : Int) (x4 : Int) => (.tuple #[.agg #[iv x0, SV.v ({}), iv x2, SV.v ({})], iv x4] : Value)) e0 e2 e4)).trans (by kernel_rfl)) (fun _ _ => trivial)
  have hz0 : ¬ b_P_Sign = 0 := q4
  refine nm (Bg.oS (Bg.RtB a_P_Sign a_P_Digits ∧ Bg.RtB b_Q_Sign b_Q_Digits) (Bg.zv a_P_Sign a_P_Digits * Bg.zv b_Q_Sign b_Q_Digits) : Int) fun n1 hn1 => ?_
  refine nm (Bg.oD (Bg.RtB a_P_Sign a_P_Digits ∧ Bg.RtB b_Q_Sign b_Q_Digits) (Bg.zv a_P_Sign a_P_Digits * Bg.zv b_Q_Sign b_Q_Digits) : List Int) fun l1 hl1 => ?_
  have hl1n := congrArg List.length hl1
  refine nm (Bg.oS (Bg.RtB a_Q_Sign a_Q_Digits ∧ Bg.RtB b_P_Sign b_P_Digits) (Bg.zv a_Q_Sign a_Q_Digits * Bg.zv b_P_Sign b_P_Digits) : Int) fun n2 hn2 => ?_
  refine nm (Bg.oD (Bg.RtB a_Q_Sign a_Q_Digits ∧ Bg.RtB b_P_Sign b_P_Digits) (Bg.zv a_Q_Sign a_Q_Digits * Bg.zv b_P_Sign b_P_Digits) : List Int) fun l2 hl2 => ?_
  have hl2n := congrArg List.length hl2
  refine nm (Fr.rS ((Bg.RtB n1 l1 ∧ Bg.RtB n2 l2) ∧ n2 ≠ 0) (Rat.divInt (Bg.zv n1 l1) (Bg.zv n2 l2)) : Int) fun n3 hn3 => ?_
  refine nm (Fr.rD ((Bg.RtB n1 l1 ∧ Bg.RtB n2 l2) ∧ n2 ≠ 0) (Rat.divInt (Bg.zv n1 l1) (Bg.zv n2 l2)) : List Int) fun l3 hl3 => ?_
  have hl3n := congrArg List.length hl3
  refine nm (Fr.rT ((Bg.RtB n1 l1 ∧ Bg.RtB n2 l2) ∧ n2 ≠ 0) : Int) fun n4 hn4 => ?_
  refine nm (Fr.rE ((Bg.RtB n1 l1 ∧ Bg.RtB n2 l2) ∧ n2 ≠ 0) (Rat.divInt (Bg.zv n1 l1) (Bg.zv n2 l2)) : List Int) fun l4 hl4 => ?_
  have hl4n := congrArg List.length hl4
  refine nm (if ¬ (Bg.RtB n1 l1 ∧ Bg.RtB n2 l2) then (1 : Int) else if n2 = 0 then 15 else 0 : Int) fun n5 hn5 => ?_
  obtain ⟨z4, z4l⟩ := Fr.Bz.mul fa.p fb.q hn1 hl1
  obtain ⟨z9, z9l⟩ := Fr.Bz.mul fa.q fb.p hn2 hl2
  have hy0 : (((Fr.fq a_P_Sign a_P_Digits a_Q_Digits)).den : Int) * ((Fr.fq b_P_Sign b_P_Digits b_Q_Digits)).num ≠ 0 := Int.mul_ne_zero fa.den (fb.p.ne.1 hz0)
  have zf := Fr.new_is z4 z9 hy0 hn3 hl3 hn4 hl4
  have hEr : n5 = 0 := by rw [hn5, if_neg (fun h => h ⟨z4.rt, z9.rt⟩), if_neg (z9.ne.2 hy0)]
  have heq := (Fr.div_is (Fr.fq a_P_Sign a_P_Digits a_Q_Digits) (Fr.fq b_P_Sign b_P_Digits b_Q_Digits)).symm
  refine V.r [.k (pp ((G1 0).b) 0),.ld 0 0 true (fun _ => Dat.cells (DBig.mk a_P_Sign ⟨a_P_Digits, a_P_Digitss⟩)),.k (pp ((G1 1).b) 2),.ld 1 2 true (fun _ => Dat.cells (DBig.mk b_Q_Sign ⟨b_Q_Digits, b_Q_Digitss⟩)),.ct g0 4 58 false [] [] [(kf false (.f 0) a_P_Digits (fun _ => a_P_Digitss)).a, (kf false (.f 3) b_Q_Digits (fun _ => b_Q_Digitss)).a] (fun _ G => times_ctv a_P_Sign a_P_Digits a_P_Digitss b_Q_Sign b_Q_Digits b_Q_Digitss (by omega) (by omega) n1 hn1 l1 hl1),.k (pp ((G1 0).b) 2),.ld 0 2 true (fun _ => Dat.cells (DBig.mk a_Q_Sign ⟨a_Q_Digits, a_Q_Digitss⟩)),.k (pp ((G1 1).b) 0),.ld 1 0 true (fun _ => Dat.cells (DBig.mk b_P_Sign ⟨b_P_Digits, b_P_Digitss⟩)),.ct g0 9 58 false [] [] [(kf false (.f 1) a_Q_Digits (fun _ => a_Q_Digitss)).a, (kf false (.f 2) b_P_Digits (fun _ => b_P_Digitss)).a] (fun _ G => times_ctv a_Q_Sign a_Q_Digits a_Q_Digitss b_P_Sign b_P_Digits b_P_Digitss (by omega) (by omega) n2 hn2 l2 hl2),.ct g0 10 57 false [] [] [(kf true (.g 4 0) l1 (fun G => (G 4).ss 0)).a, (kf true (.g 9 0) l2 (fun G => (G 9).ss 0)).a] (fun _ G => new_ctv n1 l1 ((G 4).ss 0) n2 l2 ((G 9).ss 0) (by omega) (by omega) n3 hn3 l3 hl3 n4 hn4 l4 hl4 n5 hn5),.v fun G => ag (DFrac.mk (DBig.mk n3 ⟨l3, (G 10).ss 0⟩) (DBig.mk n4 ⟨l4, (G 10).ss 1⟩)),.k (iv n5),.st 2 (fun G => .blk ((G1 2).b) (ca (DFrac.mk (DBig.mk n3 ⟨l3, (G 10).ss 0⟩) (DBig.mk n4 ⟨l4, (G 10).ss 1⟩))) 30),.k (iv n5)] fun _ _ G6 kw6 => ?_
  intro S_ s_
  obtain ⟨⟨kl5, -⟩, ⟨kl6, -⟩, ⟨kl7, -⟩, ⟨kl8, -⟩, -⟩ : Lq l1 (((G6 4).ss 0).v) ∧ Lq l2 (((G6 9).ss 0).v) ∧ Lq l3 (((G6 10).ss 0).v) ∧ Lq l4 (((G6 10).ss 1).v) ∧ True := kn kw6 (by kernel_rfl)
  clear kw6
  have e1 : l3 = Fr.rD ((Fr.FrB a_P_Sign a_P_Digits a_Q_Sign a_Q_Digits ∧ Fr.FrB b_P_Sign b_P_Digits b_Q_Sign b_Q_Digits) ∧ b_P_Sign ≠ 0) ((Fr.fq a_P_Sign a_P_Digits a_Q_Digits) / (Fr.fq b_P_Sign b_P_Digits b_Q_Digits)) := (Fr.Fz.ret zf ⟨hRR, hz0⟩ (heq)).2.1
  subst e1
  have e3 : l4 = Fr.rE ((Fr.FrB a_P_Sign a_P_Digits a_Q_Sign a_Q_Digits ∧ Fr.FrB b_P_Sign b_P_Digits b_Q_Sign b_Q_Digits) ∧ b_P_Sign ≠ 0) ((Fr.fq a_P_Sign a_P_Digits a_Q_Digits) / (Fr.fq b_P_Sign b_P_Digits b_Q_Digits)) := (Fr.Fz.ret zf ⟨hRR, hz0⟩ (heq)).2.2.2
  subst e3
  have e0 : n3 = Fr.rS ((Fr.FrB a_P_Sign a_P_Digits a_Q_Sign a_Q_Digits ∧ Fr.FrB b_P_Sign b_P_Digits b_Q_Sign b_Q_Digits) ∧ b_P_Sign ≠ 0) ((Fr.fq a_P_Sign a_P_Digits a_Q_Digits) / (Fr.fq b_P_Sign b_P_Digits b_Q_Digits)) := (Fr.Fz.ret zf ⟨hRR, hz0⟩ (heq)).1
  have e2 : n4 = Fr.rT ((Fr.FrB a_P_Sign a_P_Digits a_Q_Sign a_Q_Digits ∧ Fr.FrB b_P_Sign b_P_Digits b_Q_Sign b_Q_Digits) ∧ b_P_Sign ≠ 0) := (Fr.Fz.ret zf ⟨hRR, hz0⟩ (heq)).2.2.1
  have e4 : n5 = if ¬ (Fr.FrB a_P_Sign a_P_Digits a_Q_Sign a_Q_Digits ∧ Fr.FrB b_P_Sign b_P_Digits b_Q_Sign b_Q_Digits) then (1 : Int) else if b_P_Sign = 0 then 15 else 0 := by rw [if_neg (fun h => h hRR), if_neg hz0]; exact hEr
  exact V.ret [2, 0] [(G6 10).ss 0, (G6 10).ss 1] [fun _ => {}, fun _ => {}] [] [6, 7] [] (.tuple #[ag (DFrac.mk (DBig.mk n3 ⟨(Fr.rD ((Fr.FrB a_P_Sign a_P_Digits a_Q_Sign a_Q_Digits ∧ Fr.FrB b_P_Sign b_P_Digits b_Q_Sign b_Q_Digits) ∧ b_P_Sign ≠ 0) ((Fr.fq a_P_Sign a_P_Digits a_Q_Digits) / (Fr.fq b_P_Sign b_P_Digits b_Q_Digits))), (G6 10).ss 0⟩) (DBig.mk n4 ⟨(Fr.rE ((Fr.FrB a_P_Sign a_P_Digits a_Q_Sign a_Q_Digits ∧ Fr.FrB b_P_Sign b_P_Digits b_Q_Sign b_Q_Digits) ∧ b_P_Sign ≠ 0) ((Fr.fq a_P_Sign a_P_Digits a_Q_Digits) / (Fr.fq b_P_Sign b_P_Digits b_Q_Digits))), (G6 10).ss 1⟩)), iv n5]) (fun _ _ => by kernel_rfl) (fun _ _ => (Eq.trans (by kernel_rfl) (cong3 (fun (x0 : Int) (x2 : Int) (x4 : Int) => (.tuple #[.agg #[iv x0, ((G6 10).ss 0).v, iv x2, ((G6 10).ss 1).v], iv x4] : Value)) e0 e2 e4)).trans (by kernel_rfl)) (fun _ _ => trivial)
theorem fdiv_ctv (a_P_Sign : Int) (a_P_Digits : List Int) (a_P_Digitss : SV) (a_Q_Sign : Int) (a_Q_Digits : List Int) (a_Q_Digitss : SV) (b_P_Sign : Int) (b_P_Digits : List Int) (b_P_Digitss : SV) (b_Q_Sign : Int) (b_Q_Digits : List Int) (b_Q_Digitss : SV) (haP : a_P_Digits.length ≤ 17179869184) (haQ : a_Q_Digits.length ≤ 17179869184) (hbP : b_P_Digits.length ≤ 17179869184) (hbQ : b_Q_Digits.length ≤ 17179869184) (rv0 : Int) (erv0 : rv0 = Fr.rS ((Fr.FrB a_P_Sign a_P_Digits a_Q_Sign a_Q_Digits ∧ Fr.FrB b_P_Sign b_P_Digits b_Q_Sign b_Q_Digits) ∧ b_P_Sign ≠ 0) ((Fr.fq a_P_Sign a_P_Digits a_Q_Digits) / (Fr.fq b_P_Sign b_P_Digits b_Q_Digits))) (rv1 : List Int) (erv1 : rv1 = Fr.rD ((Fr.FrB a_P_Sign a_P_Digits a_Q_Sign a_Q_Digits ∧ Fr.FrB b_P_Sign b_P_Digits b_Q_Sign b_Q_Digits) ∧ b_P_Sign ≠ 0) ((Fr.fq a_P_Sign a_P_Digits a_Q_Digits) / (Fr.fq b_P_Sign b_P_Digits b_Q_Digits))) (rv2 : Int) (erv2 : rv2 = Fr.rT ((Fr.FrB a_P_Sign a_P_Digits a_Q_Sign a_Q_Digits ∧ Fr.FrB b_P_Sign b_P_Digits b_Q_Sign b_Q_Digits) ∧ b_P_Sign ≠ 0)) (rv3 : List Int) (erv3 : rv3 = Fr.rE ((Fr.FrB a_P_Sign a_P_Digits a_Q_Sign a_Q_Digits ∧ Fr.FrB b_P_Sign b_P_Digits b_Q_Sign b_Q_Digits) ∧ b_P_Sign ≠ 0) ((Fr.fq a_P_Sign a_P_Digits a_Q_Digits) / (Fr.fq b_P_Sign b_P_Digits b_Q_Digits))) (rv4 : Int) (erv4 : rv4 = if ¬ (Fr.FrB a_P_Sign a_P_Digits a_Q_Sign a_Q_Digits ∧ Fr.FrB b_P_Sign b_P_Digits b_Q_Sign b_Q_Digits) then (1 : Int) else if b_P_Sign = 0 then 15 else 0) :
    Ct Try.prog 40 #[ag (DFrac.mk (DBig.mk a_P_Sign ⟨a_P_Digits, a_P_Digitss⟩) (DBig.mk a_Q_Sign ⟨a_Q_Digits, a_Q_Digitss⟩)), ag (DFrac.mk (DBig.mk b_P_Sign ⟨b_P_Digits, b_P_Digitss⟩) (DBig.mk b_Q_Sign ⟨b_Q_Digits, b_Q_Digitss⟩))] [fs true a_P_Digits a_P_Digitss, fs true a_Q_Digits a_Q_Digitss, fs true b_P_Digits b_P_Digitss, fs true b_Q_Digits b_Q_Digitss] [] (fun g => .tuple #[ag (DFrac.mk (DBig.mk rv0 ⟨rv1, (g.ss 0)⟩) (DBig.mk rv2 ⟨rv3, (g.ss 1)⟩)), iv rv4]) (fun g => [fs true rv1 (g.ss 0), fs true rv3 (g.ss 1)]) (fun g => []) (fun g => []) := by
  subst erv0 erv1 erv2 erv3 erv4; exact fdiv_ct a_P_Sign a_P_Digits a_P_Digitss a_Q_Sign a_Q_Digits a_Q_Digitss b_P_Sign b_P_Digits b_P_Digitss b_Q_Sign b_Q_Digits b_Q_Digitss haP haQ hbP hbQ
set_option maxRecDepth 10000 in
theorem fcmp_ct (a_P_Sign : Int) (a_P_Digits : List Int) (a_P_Digitss : SV) (a_Q_Sign : Int) (a_Q_Digits : List Int) (a_Q_Digitss : SV) (b_P_Sign : Int) (b_P_Digits : List Int) (b_P_Digitss : SV) (b_Q_Sign : Int) (b_Q_Digits : List Int) (b_Q_Digitss : SV) (haP : a_P_Digits.length ≤ 17179869184) (haQ : a_Q_Digits.length ≤ 17179869184) (hbP : b_P_Digits.length ≤ 17179869184) (hbQ : b_Q_Digits.length ≤ 17179869184) :
    Cp Try.prog 30 #[ag (DFrac.mk (DBig.mk a_P_Sign ⟨a_P_Digits, a_P_Digitss⟩) (DBig.mk a_Q_Sign ⟨a_Q_Digits, a_Q_Digitss⟩)), ag (DFrac.mk (DBig.mk b_P_Sign ⟨b_P_Digits, b_P_Digitss⟩) (DBig.mk b_Q_Sign ⟨b_Q_Digits, b_Q_Digitss⟩))] [fs true a_P_Digits a_P_Digitss, fs true a_Q_Digits a_Q_Digitss, fs true b_P_Digits b_P_Digitss, fs true b_Q_Digits b_Q_Digitss] (iv (if Fr.FrB a_P_Sign a_P_Digits a_Q_Sign a_Q_Digits ∧ Fr.FrB b_P_Sign b_P_Digits b_Q_Sign b_Q_Digits then Fr.cmpQ (Fr.fq a_P_Sign a_P_Digits a_Q_Digits) (Fr.fq b_P_Sign b_P_Digits b_Q_Digits) else 0)) := by
  refine V.fn mo Try.func30 24 2 (by kernel_rfl) fun w H ε k0 => ?_
  obtain ⟨⟨kl1, -⟩, ⟨kl2, -⟩, ⟨kl3, -⟩, ⟨kl4, -⟩, -⟩ : Lq a_P_Digits a_P_Digitss.v ∧ Lq a_Q_Digits a_Q_Digitss.v ∧ Lq b_P_Digits b_P_Digitss.v ∧ Lq b_Q_Digits b_Q_Digitss.v ∧ True := kn k0 (by kernel_rfl)
  clear k0
  refine V.g [.nb 0 0 (fun b => pp b 0) 30 (fun _ => ca (DFrac.mk (DBig.mk a_P_Sign ⟨a_P_Digits, a_P_Digitss⟩) (DBig.mk a_Q_Sign ⟨a_Q_Digits, a_Q_Digitss⟩))),.nb 1 1 (fun b => pp b 0) 30 (fun _ => ca (DFrac.mk (DBig.mk b_P_Sign ⟨b_P_Digits, b_P_Digitss⟩) (DBig.mk b_Q_Sign ⟨b_Q_Digits, b_Q_Digitss⟩))),.k (iv 0)] fun _ _ G1 => ?_
  intro S_ s_
  refine nm ((!(decide (Fr.FrB a_P_Sign a_P_Digits a_Q_Sign a_Q_Digits))) || (!(decide (Fr.FrB b_P_Sign b_P_Digits b_Q_Sign b_Q_Digits))) : Bool) fun p1 hp1 => ?_
  refine V.g [.ld 0 0 true (fun _ => Dat.cells (DFrac.mk (DBig.mk a_P_Sign ⟨a_P_Digits, a_P_Digitss⟩) (DBig.mk a_Q_Sign ⟨a_Q_Digits, a_Q_Digitss⟩))),.cp g0 1 24 [(kf false (.f 0) a_P_Digits (fun _ => a_P_Digitss)).a, (kf false (.f 1) a_Q_Digits (fun _ => a_Q_Digitss)).a] (fun _ G => right_ct a_P_Sign a_P_Digits a_P_Digitss a_Q_Sign a_Q_Digits a_Q_Digitss (by omega) (by omega)),.k (bv (!(decide (Fr.FrB a_P_Sign a_P_Digits a_Q_Sign a_Q_Digits)))),.k (bv (!(decide (Fr.FrB a_P_Sign a_P_Digits a_Q_Sign a_Q_Digits)))),.ld 1 0 true (fun _ => Dat.cells (DFrac.mk (DBig.mk b_P_Sign ⟨b_P_Digits, b_P_Digitss⟩) (DBig.mk b_Q_Sign ⟨b_Q_Digits, b_Q_Digitss⟩))),.cp (gF (b := !(decide (Fr.FrB a_P_Sign a_P_Digits a_Q_Sign a_Q_Digits))) (iNF iDT)) 5 24 [(kf false (.f 2) b_P_Digits (fun _ => b_P_Digitss)).a, (kf false (.f 3) b_Q_Digits (fun _ => b_Q_Digitss)).a] (fun hg G => right_ct b_P_Sign b_P_Digits b_P_Digitss b_Q_Sign b_Q_Digits b_Q_Digitss (by omega) (by omega)),.k (bv (!(decide (Fr.FrB b_P_Sign b_P_Digits b_Q_Sign b_Q_Digits)))),.orn g0 false (!(decide (Fr.FrB a_P_Sign a_P_Digits a_Q_Sign a_Q_Digits))) (!(decide (Fr.FrB b_P_Sign b_P_Digits b_Q_Sign b_Q_Digits))) p1 hp1] fun _ _ G2 => ?_
  intro S_ s_
  refine V.cond (b := p1) (iN hp1 (iOT (iNT iDF) (iNT iDF))) (iN hp1 (iOF (iNF iDT) (iNF iDT))) (by kernel_rfl) (fun q1 => ?_) (fun q2 => ?_)
  · have hNR : ¬ (Fr.FrB a_P_Sign a_P_Digits a_Q_Sign a_Q_Digits ∧ Fr.FrB b_P_Sign b_P_Digits b_Q_Sign b_Q_Digits) := by rintro ⟨h1, h2⟩; rcases q1 with h | h; exact h h1; exact h h2
    refine V.g [.k (iv 0)] fun _ _ G3 => ?_
    intro S_ s_
    have e0 : (0 : Int) = if Fr.FrB a_P_Sign a_P_Digits a_Q_Sign a_Q_Digits ∧ Fr.FrB b_P_Sign b_P_Digits b_Q_Sign b_Q_Digits then Fr.cmpQ (Fr.fq a_P_Sign a_P_Digits a_Q_Digits) (Fr.fq b_P_Sign b_P_Digits b_Q_Digits) else 0 := (if_neg hNR).symm
    exact V.ret [0] [] [] [] [] [] (iv 0) (fun _ _ => by kernel_rfl) (fun _ _ => (Eq.trans (by kernel_rfl) (cong1 (fun (x0 : Int) => (iv x0 : Value)) e0)).trans (by kernel_rfl)) (fun _ _ => trivial)
  have hRR : Fr.FrB a_P_Sign a_P_Digits a_Q_Sign a_Q_Digits ∧ Fr.FrB b_P_Sign b_P_Digits b_Q_Sign b_Q_Digits := by first | exact q2 | exact ⟨Decidable.not_not.1 (q2).1, Decidable.not_not.1 (q2).2⟩
  have fa := Fr.FrB.z hRR.1; have fb := Fr.FrB.z hRR.2
  refine nm (Bg.oS (Bg.RtB a_P_Sign a_P_Digits ∧ Bg.RtB b_Q_Sign b_Q_Digits) (Bg.zv a_P_Sign a_P_Digits * Bg.zv b_Q_Sign b_Q_Digits) : Int) fun n1 hn1 => ?_
  refine nm (Bg.oD (Bg.RtB a_P_Sign a_P_Digits ∧ Bg.RtB b_Q_Sign b_Q_Digits) (Bg.zv a_P_Sign a_P_Digits * Bg.zv b_Q_Sign b_Q_Digits) : List Int) fun l1 hl1 => ?_
  have hl1n := congrArg List.length hl1
  refine nm (Bg.oS (Bg.RtB b_P_Sign b_P_Digits ∧ Bg.RtB a_Q_Sign a_Q_Digits) (Bg.zv b_P_Sign b_P_Digits * Bg.zv a_Q_Sign a_Q_Digits) : Int) fun n2 hn2 => ?_
  refine nm (Bg.oD (Bg.RtB b_P_Sign b_P_Digits ∧ Bg.RtB a_Q_Sign a_Q_Digits) (Bg.zv b_P_Sign b_P_Digits * Bg.zv a_Q_Sign a_Q_Digits) : List Int) fun l2 hl2 => ?_
  have hl2n := congrArg List.length hl2
  refine nm (if (Bg.RtB n1 l1 ∧ Bg.RtB n2 l2) then Bg.cmpI (Bg.zv n1 l1) (Bg.zv n2 l2) else 0 : Int) fun n3 hn3 => ?_
  obtain ⟨z4, z4l⟩ := Fr.Bz.mul fa.p fb.q hn1 hl1
  obtain ⟨z9, z9l⟩ := Fr.Bz.mul fb.p fa.q hn2 hl2
  refine V.r [.k (pp ((G1 0).b) 0),.ld 0 0 true (fun _ => Dat.cells (DBig.mk a_P_Sign ⟨a_P_Digits, a_P_Digitss⟩)),.k (pp ((G1 1).b) 2),.ld 1 2 true (fun _ => Dat.cells (DBig.mk b_Q_Sign ⟨b_Q_Digits, b_Q_Digitss⟩)),.ct g0 4 58 false [] [] [(kf false (.f 0) a_P_Digits (fun _ => a_P_Digitss)).a, (kf false (.f 3) b_Q_Digits (fun _ => b_Q_Digitss)).a] (fun _ G => times_ctv a_P_Sign a_P_Digits a_P_Digitss b_Q_Sign b_Q_Digits b_Q_Digitss (by omega) (by omega) n1 hn1 l1 hl1),.k (pp ((G1 1).b) 0),.ld 1 0 true (fun _ => Dat.cells (DBig.mk b_P_Sign ⟨b_P_Digits, b_P_Digitss⟩)),.k (pp ((G1 0).b) 2),.ld 0 2 true (fun _ => Dat.cells (DBig.mk a_Q_Sign ⟨a_Q_Digits, a_Q_Digitss⟩)),.ct g0 9 58 false [] [] [(kf false (.f 2) b_P_Digits (fun _ => b_P_Digitss)).a, (kf false (.f 1) a_Q_Digits (fun _ => a_Q_Digitss)).a] (fun _ G => times_ctv b_P_Sign b_P_Digits b_P_Digitss a_Q_Sign a_Q_Digits a_Q_Digitss (by omega) (by omega) n2 hn2 l2 hl2),.cp g0 10 68 [(kf true (.g 4 0) l1 (fun G => (G 4).ss 0)).a, (kf true (.g 9 0) l2 (fun G => (G 9).ss 0)).a] (fun _ G => Cmp_ctv n1 l1 ((G 4).ss 0) n2 l2 ((G 9).ss 0) n3 hn3),.k (iv n3)] fun _ _ G4 kw4 => ?_
  intro S_ s_
  obtain ⟨⟨kl5, -⟩, ⟨kl6, -⟩, -⟩ : Lq l1 (((G4 4).ss 0).v) ∧ Lq l2 (((G4 9).ss 0).v) ∧ True := kn kw4 (by kernel_rfl)
  clear kw4
  have e0 : n3 = if Fr.FrB a_P_Sign a_P_Digits a_Q_Sign a_Q_Digits ∧ Fr.FrB b_P_Sign b_P_Digits b_Q_Sign b_Q_Digits then Fr.cmpQ (Fr.fq a_P_Sign a_P_Digits a_Q_Digits) (Fr.fq b_P_Sign b_P_Digits b_Q_Digits) else 0 := by rw [if_pos hRR, hn3, if_pos ⟨z4.rt, z9.rt⟩, z4.v, z9.v]; exact Fr.cmpQ_is _ _
  exact V.ret [0] [] [] [] [] [] (iv n3) (fun _ _ => by kernel_rfl) (fun _ _ => (Eq.trans (by kernel_rfl) (cong1 (fun (x0 : Int) => (iv x0 : Value)) e0)).trans (by kernel_rfl)) (fun _ _ => trivial)
theorem fcmp_ctv (a_P_Sign : Int) (a_P_Digits : List Int) (a_P_Digitss : SV) (a_Q_Sign : Int) (a_Q_Digits : List Int) (a_Q_Digitss : SV) (b_P_Sign : Int) (b_P_Digits : List Int) (b_P_Digitss : SV) (b_Q_Sign : Int) (b_Q_Digits : List Int) (b_Q_Digitss : SV) (haP : a_P_Digits.length ≤ 17179869184) (haQ : a_Q_Digits.length ≤ 17179869184) (hbP : b_P_Digits.length ≤ 17179869184) (hbQ : b_Q_Digits.length ≤ 17179869184) (rv0 : Int) (erv0 : rv0 = if Fr.FrB a_P_Sign a_P_Digits a_Q_Sign a_Q_Digits ∧ Fr.FrB b_P_Sign b_P_Digits b_Q_Sign b_Q_Digits then Fr.cmpQ (Fr.fq a_P_Sign a_P_Digits a_Q_Digits) (Fr.fq b_P_Sign b_P_Digits b_Q_Digits) else 0) :
    Cp Try.prog 30 #[ag (DFrac.mk (DBig.mk a_P_Sign ⟨a_P_Digits, a_P_Digitss⟩) (DBig.mk a_Q_Sign ⟨a_Q_Digits, a_Q_Digitss⟩)), ag (DFrac.mk (DBig.mk b_P_Sign ⟨b_P_Digits, b_P_Digitss⟩) (DBig.mk b_Q_Sign ⟨b_Q_Digits, b_Q_Digitss⟩))] [fs true a_P_Digits a_P_Digitss, fs true a_Q_Digits a_Q_Digitss, fs true b_P_Digits b_P_Digitss, fs true b_Q_Digits b_Q_Digitss] (iv rv0) := by
  subst erv0; exact fcmp_ct a_P_Sign a_P_Digits a_P_Digitss a_Q_Sign a_Q_Digits a_Q_Digitss b_P_Sign b_P_Digits b_P_Digitss b_Q_Sign b_Q_Digits b_Q_Digitss haP haQ hbP hbQ

namespace Bg
theorem nv_at (l : List Int) (i : Nat) : nv l = nv (l.take i) + 1048576 ^ i * nv (l.drop i) := by
  rcases Nat.le_total i l.length with h | h
  · have := nv_split l i; rwa [Nat.min_eq_left h] at this
  · rw [List.take_of_length_le h, List.drop_of_length_le h]; simp [nv]
theorem nv_drop' (l : List Int) (i : Nat) : nv (l.drop i) = (l.getD i 0).toNat + 1048576 * nv (l.drop (i + 1)) := by
  rcases Nat.lt_or_ge i l.length with h | h
  · exact nv_drop h
  · rw [List.drop_of_length_le h, List.drop_of_length_le (by omega), List.getD_eq_getElem?_getD, List.getElem?_eq_none h]; simp [nv]
theorem nv_snoc (l : List Int) (x : Int) : nv (l ++ [x]) = nv l + 1048576 ^ l.length * x.toNat := by rw [nv_append, nv_one]
theorem dg_snoc {l : List Int} {x : Int} (h : Dg l) (hx : 0 ≤ x ∧ x < 1048576) : Dg (l ++ [x]) := fun d hd => by
  rcases List.mem_append.1 hd with hd | hd
  · exact h d hd
  · rw [List.mem_singleton.1 hd]; exact hx
theorem less_at {a b : List Int} {i : Nat} (ha : Dg a) (hb : Dg b) (h : nv (a.drop (i + 1)) = nv (b.drop (i + 1))) (hn : a.getD i 0 ≠ b.getD i 0) : a.getD i 0 < b.getD i 0 ↔ nv a < nv b := by
  have e1 := nv_at a i; have e2 := nv_at b i
  have f1 := nv_drop' a i; have f2 := nv_drop' b i
  have g1 := take_lt ha i; have g2 := take_lt hb i
  have k1 := ha.get' i; have k2 := hb.get' i
  rw [h] at f1
  generalize nv (b.drop (i + 1)) = T at *
  generalize a.getD i 0 = x at *
  generalize b.getD i 0 = y at *
  generalize nv (a.take i) = A at *
  generalize nv (b.take i) = B at *
  generalize 1048576 ^ i = P at *
  rw [e1, e2, f1, f2]
  have key : ∀ (u v A B : Nat), u < v → A < P → A + P * (u + 1048576 * T) < B + P * (v + 1048576 * T) := fun u v A B huv hA => by
    have : P * (u + 1 + 1048576 * T) ≤ P * (v + 1048576 * T) := Nat.mul_le_mul_left P (by omega)
    have e : P * (u + 1 + 1048576 * T) = P * (u + 1048576 * T) + P := by rw [show u + 1 + 1048576 * T = (u + 1048576 * T) + 1 by omega, Nat.mul_add, Nat.mul_one]
    omega
  constructor
  · intro hlt; exact key x.toNat y.toNat A B (by omega) g1
  · intro hlt
    rcases Int.lt_trichotomy x y with h1 | h1 | h1
    · exact h1
    · exact (hn h1).elim
    · have := key y.toNat x.toNat B A (by omega) g2; omega
theorem less_go {a b : List Int} {i : Nat} (h : nv (a.drop (i + 1)) = nv (b.drop (i + 1))) (he : a.getD i 0 = b.getD i 0) : nv (a.drop i) = nv (b.drop i) := by rw [nv_drop', nv_drop' b, h, he]
structure PluI (a b out : List Int) (i : Nat) (c : Int) : Prop where
  len : out.length = i
  dg : Dg out
  c0 : 0 ≤ c ∧ c ≤ 1
  sum : nv out + 1048576 ^ i * c.toNat = nv (a.take i) + nv (b.take i)
theorem plu_start (a b : List Int) : PluI a b [] 0 0 := ⟨rfl, Dg.nil, by omega, by simp [nv]⟩
theorem plu_step {a b out : List Int} {i : Nat} {c x : Int} (h : PluI a b out i c) (ha : Dg a) (hb : Dg b) (hx : x = a.getD i 0 + b.getD i 0 + c) : PluI a b (out ++ [x % 1048576]) (i + 1) (x / 1048576) := by
  have k1 := ha.get' i; have k2 := hb.get' i; have k3 := h.c0
  refine ⟨by simp [h.len], dg_snoc h.dg (by omega), by omega, ?_⟩
  rw [nv_snoc, h.len, nv_take' a i, nv_take' b i, pow_succ']
  have hs := h.sum
  have e : (x % 1048576).toNat + 1048576 * (x / 1048576).toNat = (a.getD i 0).toNat + (b.getD i 0).toNat + c.toNat := by omega
  generalize 1048576 ^ i = P at *
  have e2 : P * (x % 1048576).toNat + 1048576 * P * (x / 1048576).toNat = P * ((a.getD i 0).toNat + (b.getD i 0).toNat + c.toNat) := split_mul P _ _ _ e
  rw [Nat.mul_add, Nat.mul_add] at e2
  omega
theorem plu_end {a b out : List Int} {i : Nat} {c : Int} (h : PluI a b out i c) (h1 : a.length ≤ i) (h2 : b.length ≤ i) (hc : ¬ 0 < c) : nv out = nv a + nv b := by
  have hs := h.sum; have := h.c0
  rw [List.take_of_length_le h1, List.take_of_length_le h2, show c.toNat = 0 by omega] at hs
  omega
structure MinI (a b out : List Int) (i : Nat) (c : Int) : Prop where
  len : out.length = i
  dg : Dg out
  c0 : 0 ≤ c ∧ c ≤ 1
  sum : nv out + nv (b.take i) = nv (a.take i) + 1048576 ^ i * c.toNat
theorem min_start (a b : List Int) : MinI a b [] 0 0 := ⟨rfl, Dg.nil, by omega, by simp [nv]⟩
theorem min_step {a b out : List Int} {i : Nat} {c x d e : Int} (h : MinI a b out i c) (ha : Dg a) (hb : Dg b) (hx : x = a.getD i 0 - b.getD i 0 - c) (hd : (x < 0 ∧ d = x + 1048576 ∧ e = 1) ∨ (¬ x < 0 ∧ d = x ∧ e = 0)) : MinI a b (out ++ [d]) (i + 1) e := by
  have k1 := ha.get' i; have k2 := hb.get' i; have k3 := h.c0
  refine ⟨by simp [h.len], dg_snoc h.dg (by omega), by omega, ?_⟩
  rw [nv_snoc, h.len, nv_take' a i, nv_take' b i, pow_succ']
  have hs := h.sum
  have e1 : d.toNat + (b.getD i 0).toNat + c.toNat = (a.getD i 0).toNat + 1048576 * e.toNat := by omega
  generalize 1048576 ^ i = P at *
  have e2 : P * (d.toNat + (b.getD i 0).toNat + c.toNat) = P * ((a.getD i 0).toNat + 1048576 * e.toNat) := by rw [e1]
  rw [Nat.mul_add, Nat.mul_add, Nat.mul_add, ← Nat.mul_assoc, Nat.mul_comm P 1048576] at e2
  omega
theorem min_end {a b out : List Int} {i : Nat} {c : Int} (h : MinI a b out i c) (hi : i = a.length) (ha : Dg a) (hle : nv b ≤ nv a) : nv out = nv a - nv b := by
  subst hi
  have hs := h.sum; have hc := h.c0
  rw [List.take_length] at hs
  have e := nv_at b a.length
  have h1 := nv_lt ha
  have h2 : nv out < 1048576 ^ a.length := by have := nv_lt h.dg; rwa [h.len] at this
  generalize 1048576 ^ a.length = P at *
  have h3 : nv (b.drop a.length) = 0 := by
    rcases Nat.eq_zero_or_pos (nv (b.drop a.length)) with h0 | h0
    · exact h0
    · have := Nat.mul_le_mul_left P h0; omega
  rw [h3] at e
  have h4 : c.toNat = 0 := by
    rcases Nat.eq_zero_or_pos c.toNat with h0 | h0
    · exact h0
    · have := Nat.mul_le_mul_left P h0; omega
  rw [h4] at hs; omega
theorem mul_end0 {a b out : List Int} {i : Nat} (h : MulI a b out i b.length 0) (hi : i < a.length) : MulO a b out (i + 1) := by
  have := mul_end h hi (x := out.getD (i + b.length) 0) (by omega)
  rwa [show out.set (i + b.length) (out.getD (i + b.length) 0) = out from ?_] at this
  refine List.ext_getElem? fun k => ?_
  by_cases e : i + b.length = k
  · subst e
    by_cases hl : i + b.length < out.length
    · rw [List.getElem?_set_self hl, List.getD_eq_getElem?_getD, List.getElem?_eq_getElem hl]; rfl
    · rw [List.getElem?_eq_none (by simpa using hl), List.getElem?_eq_none (by omega)]
  · rw [List.getElem?_set_ne e]
structure OveI (a b q r : List Int) (i : Nat) : Prop where
  len : q.length = a.length
  dg : Dg q
  r : r = dig (nv (a.drop i) % nv b)
  q : nv (q.drop i) = nv (a.drop i) / nv b
theorem ove_start {a b : List Int} : OveI a b (List.replicate a.length 0) [] a.length :=
  ⟨by simp, Dg.zeros _, by rw [List.drop_length]; simp [nv, dig_zero], by rw [List.drop_length, List.drop_of_length_le (by simp)]; simp [nv]⟩
theorem ove_R {a b q r : List Int} {i : Nat} (h : OveI a b q r (i + 1)) (ha : Dg a) (hb : 0 < nv b) {x : Int} (hx : x = a.getD i 0) : nv ([x] ++ r) < 1048576 * nv b ∧ Dg ([x] ++ r) ∧ nv (a.drop i) = nv ([x] ++ r) + 1048576 * (nv b * nv (q.drop (i + 1))) := by
  have k := ha.get' i
  have e := nv_drop' a i
  have hm := Nat.mod_lt (nv (a.drop (i + 1))) hb
  have hd := Nat.div_add_mod (nv (a.drop (i + 1))) (nv b)
  have hr := h.r
  have e2 : nv ([x] ++ r) = x.toNat + 1048576 * nv r := by rw [List.singleton_append, nv]
  rw [e2, h.r, nv_dig, h.q, hx]
  refine ⟨?_, ?_, ?_⟩
  · omega
  · rw [List.singleton_append]
    intro d hd
    rcases List.mem_cons.1 hd with rfl | hd
    · exact k
    · exact dig_Dg _ d hd
  · rw [e]; omega
theorem ove_step {a b q r : List Int} {i : Nat} (h : OveI a b q r (i + 1)) (ha : Dg a) (hb : 0 < nv b) (hi : i < a.length) {x lo : Int} (hx : x = a.getD i 0) (h0 : 0 ≤ lo) (hl : lo < 1048576) (h1 : lo.toNat * nv b ≤ nv ([x] ++ r)) (h2 : nv ([x] ++ r) < (lo.toNat + 1) * nv b) :
    OveI a b (q.set i lo) (dig (nv ([x] ++ r) - lo.toNat * nv b)) i := by
  obtain ⟨r1, r2, r3⟩ := ove_R h ha hb hx
  have hdv : nv ([x] ++ r) / nv b = lo.toNat := Nat.div_eq_of_lt_le h1 h2
  have hmd : nv ([x] ++ r) % nv b = nv ([x] ++ r) - lo.toNat * nv b := by
    have := Nat.div_add_mod (nv ([x] ++ r)) (nv b)
    rw [hdv, Nat.mul_comm] at this; omega
  have hq : nv (a.drop i) / nv b = lo.toNat + 1048576 * nv (q.drop (i + 1)) := by
    rw [r3, show nv ([x] ++ r) + 1048576 * (nv b * nv (q.drop (i + 1))) = nv ([x] ++ r) + nv b * (1048576 * nv (q.drop (i + 1))) by rw [Nat.mul_left_comm], Nat.add_mul_div_left _ _ hb, hdv]
  have hm : nv (a.drop i) % nv b = nv ([x] ++ r) % nv b := by
    rw [r3, show nv ([x] ++ r) + 1048576 * (nv b * nv (q.drop (i + 1))) = nv ([x] ++ r) + nv b * (1048576 * nv (q.drop (i + 1))) by rw [Nat.mul_left_comm], Nat.add_mul_mod_self_left]
  refine ⟨by rw [List.length_set]; exact h.len, ?_, by rw [hm, hmd], ?_⟩
  · intro d hd
    rcases List.mem_or_eq_of_mem_set hd with hd | hd
    · exact h.dg d hd
    · rw [hd]; exact ⟨h0, hl⟩
  · rw [nv_drop', hq]
    have hlen := h.len
    rw [show (q.set i lo).getD i 0 = lo from (getD_set (by omega)).trans (if_pos rfl), List.drop_set_of_lt (by omega)]
theorem ove_end {a b q r : List Int} (h : OveI a b q r 0) : nv q = nv a / nv b ∧ r = dig (nv a % nv b) := by
  have h1 := h.q; have h2 := h.r
  rw [List.drop_zero] at h1 h2; rw [List.drop_zero] at h1
  exact ⟨h1, h2⟩
theorem ove_len {a b q r : List Int} {i : Nat} (h : OveI a b q r i) (hb : Dg b) (h0 : 0 < nv b) : r.length ≤ b.length := by
  rw [h.r]
  exact Nat.le_trans (dig_len_mono' (Nat.le_of_lt (Nat.mod_lt _ h0))) (dig_le hb)
theorem tmod_abs {n : Int} {d : Int} (hd : d = n.tmod 1048576) : (if d < 0 then -d else d) = ((n.natAbs % 1048576 : Nat) : Int) := by
  subst hd
  rcases Int.le_total 0 n with h | h
  · rw [Int.tmod_eq_emod_of_nonneg h, if_neg (by omega)]; omega
  · have e : n.tmod 1048576 = -((-n) % 1048576) := by
      rw [← Int.tmod_eq_emod_of_nonneg (a := -n) (by omega), Int.neg_tmod, Int.neg_neg]
    rw [e]; split <;> omega
theorem tdiv_abs {n : Int} : (n.tdiv 1048576).natAbs = n.natAbs / 1048576 := by rw [Int.natAbs_tdiv]; rfl
theorem add1_len {l m : List Int} (h : Dg l) : (dig (nv (dig (nv l / nv m)) + nv [1])).length ≤ l.length + 1 := by
  refine dig_lt ?_
  rw [nv_dig, nv_one, pow_succ']
  have h1 := nv_lt h
  have h2 := Nat.div_le_self (nv l) (nv m)
  show nv l / nv m + 1 < _
  omega
theorem r4_no {s : Int} {l : List Int} (h : (s < -1 ∨ 1 < s) ∨ ¬ ((l.length : Int) = 0 ↔ s = 0)) : ¬ RtB s l := fun k => by
  rcases k.cases with ⟨h0, e⟩ | ⟨h0, e⟩ | ⟨h0, e⟩
  · rcases h with h | h
    · omega
    · exact h ⟨fun _ => e, fun _ => by have := k.len0.2 h0; omega⟩
  · rcases h with h | h
    · omega
    · have : l.length ≠ 0 := fun e => by have := k.len0.1 e; omega
      exact h ⟨fun _ => by omega, fun _ => by omega⟩
  · rcases h with h | h
    · omega
    · have : l.length ≠ 0 := fun e => by have := k.len0.1 e; omega
      exact h ⟨fun _ => by omega, fun _ => by omega⟩
theorem r4_fin {s v n : Int} {l : List Int} (hd : ∀ i, i < l.length → 0 ≤ l.getD i default ∧ l.getD i default < 1048576) (h1 : ¬ ((s < -1 ∨ 1 < s) ∨ ¬ ((l.length : Int) = 0 ↔ s = 0))) (hv : v = l.getD n.toNat default) (hn : n = (l.length : Int) - 1) : ((l.length : Int) = 0 ∨ ¬ v = 0) ↔ RtB s l := by
  have h2 : -1 ≤ s ∧ s ≤ 1 := by omega
  have h3 : (l.length : Int) = 0 ↔ s = 0 := Classical.byContradiction fun k => h1 (.inr k)
  by_cases h0 : (l.length : Int) = 0
  · refine ⟨fun _ => ⟨Dg_of hd, .inl ⟨List.eq_nil_of_length_eq_zero (by omega), h3.1 h0⟩⟩, fun _ => .inl h0⟩
  · have hs : s ≠ 0 := fun e => h0 (h3.2 e)
    have hne : l ≠ [] := fun e => h0 (by rw [e]; rfl)
    have hz := Nz_iff hne
    rw [show l.length - 1 = n.toNat by omega, show l.getD n.toNat 0 = v from hv.symm] at hz
    refine ⟨fun h => ⟨Dg_of hd, .inr ⟨hne, by omega, hz.2 (h.resolve_left h0)⟩⟩, fun h => .inr (hz.1 h.nz)⟩
theorem made_s {n : Nat} {s : Int} (h : ((dig n).length : Int) = 0) : 0 = sg0 n s := by unfold sg0; rw [if_pos (len_dig0.1 h)]
theorem made_s' {n : Nat} {s : Int} (h : ¬ ((dig n).length : Int) = 0) : s = sg0 n s := by unfold sg0; rw [if_neg fun e => h (len_dig0.2 e)]
theorem made_d {n : Nat} (h : ((dig n).length : Int) = 0) : [] = dig n := by rw [len_dig0.1 h]; rfl
end Bg

open Go Go.Proofs
set_option maxRecDepth 10000 in
theorem r4right_ct (a_Sign : Int) (a_Digits : List Int) (a_Digitss : SV) :
    Cp Try.prog 88 #[ag (DBig.mk a_Sign ⟨a_Digits, a_Digitss⟩)] [fs true a_Digits a_Digitss] (bv (decide (Bg.RtB a_Sign a_Digits))) := by
  refine V.fn mo Try.func88 56 1 (by kernel_rfl) fun w H ε k0 => ?_
  obtain ⟨⟨kl1, -⟩, -⟩ : Lq a_Digits a_Digitss.v ∧ True := kn k0 (by kernel_rfl)
  clear k0
  refine V.g [.nb 0 0 (fun b => pp b 0) 28 (fun _ => ca (DBig.mk a_Sign ⟨a_Digits, a_Digitss⟩)),.kb false] fun _ _ G1 => ?_
  intro S_ s_
  refine V.g [.k (iv 0)] fun _ _ G2 => ?_
  intro S_ s_
  refine V.loop (γ := Int) (fun i => ⟨[(1, pp ((G1 0).b) 0), (3, iv i)], [fs false a_Digits a_Digitss], [.blk ((G1 0).b) (ca (DBig.mk a_Sign ⟨a_Digits, a_Digitss⟩)) 28]⟩) (fun i => (0 ≤ i) ∧ (i ≤ (a_Digits.length : Int)) ∧ (0 ≤ i) ∧ (i ≤ (a_Digits.length : Int)) ∧ (∀ j, j < i.toNat → 0 ≤ a_Digits.getD j default ∧ a_Digits.getD j default < 1048576)) (fun i => ((a_Digits.length : Int) - i).toNat) 0 (by kernel_rfl) [0] (by kernel_rfl) ?_ ?_
  · refine ⟨?_, ?_, ?_, ?_, ?_⟩
    · show 0 ≤ (0 : Int)
      first | omega | rfl | (simp; done) | (subst_vars; simp; done)
    · show (0 : Int) ≤ (a_Digits.length : Int)
      first | omega | rfl | (simp; done) | (subst_vars; simp; done)
    · show 0 ≤ (0 : Int)
      omega
    · show (0 : Int) ≤ (a_Digits.length : Int)
      omega
    show ∀ j, j < (0 : Int).toNat → 0 ≤ a_Digits.getD j default ∧ a_Digits.getD j default < 1048576
    intro j hj; simp at hj
  rintro i hF1 kw3 Z1 hZ1
  have hF1 : (0 ≤ i) ∧ (i ≤ (a_Digits.length : Int)) ∧ (0 ≤ i) ∧ (i ≤ (a_Digits.length : Int)) ∧ (∀ j, j < i.toNat → 0 ≤ a_Digits.getD j default ∧ a_Digits.getD j default < 1048576) := hF1
  obtain ⟨hf1, hf2, hf3, hf4, hf5⟩ := hF1
  clear kw3
  refine V.g [.k (iv i),.k (pp ((G1 0).b) 1),.ld 0 1 false (fun _ => [a_Digitss.v]),.ln (kf false (.f 0) a_Digits (fun _ => a_Digitss)),.k (bv (decide (i < (a_Digits.length : Int))))] fun _ _ G3 => ?_
  intro S_ s_
  refine V.cond (b := decide (i < (a_Digits.length : Int))) iDT iDF (by kernel_rfl) (fun q1 => ?_) (fun q2 => ?_)
  · refine nm (a_Digits.getD i.toNat default : Int) fun v1 hv1 => ?_
    refine V.g [.k (pp ((G1 0).b) 1),.ld 0 1 false (fun _ => [a_Digitss.v]),.k (iv i),.ix g0 (kf false (.f 0) a_Digits (fun _ => a_Digitss)) i (fun _ => ⟨by omega, by omega⟩),.le g0 (kf false (.f 0) a_Digits (fun _ => a_Digitss)) i none false v1 hv1 (fun _ => ⟨by omega, by omega⟩) false (fun _ => [iv v1]),.k (bv (decide (v1 < 0))),.k (bv (decide (v1 < 0))),.k (pp ((G1 0).b) 1),.ld 0 1 false (fun _ => [a_Digitss.v]),.k (iv i),.ix (gF (b := decide (v1 < 0)) iDF) (kf false (.f 0) a_Digits (fun _ => a_Digitss)) i (fun hg => ⟨by omega, by omega⟩),.le (gF (b := decide (v1 < 0)) iDF) (kf false (.f 0) a_Digits (fun _ => a_Digitss)) i none false v1 hv1 (fun hg => ⟨by omega, by omega⟩) false (fun _ => [iv v1]),.k (bv (decide (1048576 ≤ v1))),.or g0 false (decide (v1 < 0)) (decide (1048576 ≤ v1))] fun _ _ G4 => ?_
    intro S_ s_
    refine V.cond (b := (decide (v1 < 0)) || (decide (1048576 ≤ v1))) (iOT iDT iDT) (iOF iDF iDF) (by kernel_rfl) (fun q3 => ?_) (fun q4 => ?_)
    · refine V.g [.kb false] fun _ _ G5 => ?_
      intro S_ s_
      have e0 : false = decide (Bg.RtB a_Sign a_Digits) := by exact (decide_eq_false (Bg.rt_bad (k := i.toNat) (by omega) hv1 (by have hqq := q3; omega))).symm
      exact V.ret [0] [] [] [] [] [] (bv false) (fun _ _ => by kernel_rfl) (fun _ _ => (Eq.trans (by kernel_rfl) (cong1 (fun (x0 : Bool) => (bv x0 : Value)) e0)).trans (by kernel_rfl)) (fun _ _ => trivial)
    refine V.g [.k (iv i),.a (i + 1) (by omega) (by omega),.k (iv (i + 1))] fun _ _ G6 => ?_
    intro S_ s_
    refine V.rnd hZ1 (i + 1) [0] (by kernel_rfl) ?_ ?_
    · refine ⟨?_, ?_, ?_, ?_, ?_⟩
      · show 0 ≤ (i + 1)
        omega
      · show (i + 1) ≤ (a_Digits.length : Int)
        omega
      · show 0 ≤ (i + 1)
        omega
      · show (i + 1) ≤ (a_Digits.length : Int)
        omega
      show ∀ j, j < (i + 1).toNat → 0 ≤ a_Digits.getD j default ∧ a_Digits.getD j default < 1048576
      intro j hj; by_cases e : j < i.toNat
      · exact hf5 j e
      rw [show j = i.toNat by omega, ← hv1]; have hqq := q4; omega
    show ((a_Digits.length : Int) - (i + 1)).toNat < ((a_Digits.length : Int) - i).toNat
    omega
  refine V.g [.k (pp ((G1 0).b) 1),.ld 0 1 false (fun _ => [a_Digitss.v]),.ln (kf false (.f 0) a_Digits (fun _ => a_Digitss)),.k (iv (a_Digits.length : Int))] fun _ _ G7 => ?_
  intro S_ s_
  refine nm ((decide (a_Sign < (-1))) || (decide (1 < a_Sign)) : Bool) fun p1 hp1 => ?_
  refine nm (p1 || (!((decide ((a_Digits.length : Int) = 0)) == (decide (a_Sign = 0)))) : Bool) fun p2 hp2 => ?_
  refine V.g [.k (pp ((G1 0).b) 0),.ld 0 0 false (fun _ => [iv a_Sign]),.k (bv (decide (a_Sign < (-1)))),.k (bv (decide (a_Sign < (-1)))),.k (pp ((G1 0).b) 0),.ld 0 0 false (fun _ => [iv a_Sign]),.k (bv (decide (1 < a_Sign))),.orn g0 false (decide (a_Sign < (-1))) (decide (1 < a_Sign)) p1 hp1,.k (bv p1),.k (iv (a_Digits.length : Int)),.k (bv (decide ((a_Digits.length : Int) = 0))),.k (pp ((G1 0).b) 0),.ld 0 0 false (fun _ => [iv a_Sign]),.k (bv (decide (a_Sign = 0))),.k (bv (!((decide ((a_Digits.length : Int) = 0)) == (decide (a_Sign = 0))))),.orn g0 false p1 (!((decide ((a_Digits.length : Int) = 0)) == (decide (a_Sign = 0)))) p2 hp2] fun _ _ G8 => ?_
  intro S_ s_
  refine V.cond (b := p2) (iN hp2 (iOT (iN hp1 (iOT iDT iDT)) (iNT (iQF iDT iDT)))) (iN hp2 (iOF (iN hp1 (iOF iDF iDF)) (iNF (iQT iDT iDT)))) (by kernel_rfl) (fun q5 => ?_) (fun q6 => ?_)
  · refine V.g [.kb false] fun _ _ G9 => ?_
    intro S_ s_
    have e0 : false = decide (Bg.RtB a_Sign a_Digits) := (decide_eq_false (Bg.r4_no q5)).symm
    exact V.ret [0] [] [] [] [] [] (bv false) (fun _ _ => by kernel_rfl) (fun _ _ => (Eq.trans (by kernel_rfl) (cong1 (fun (x0 : Bool) => (bv x0 : Value)) e0)).trans (by kernel_rfl)) (fun _ _ => trivial)
  have h7n : ¬ ((a_Sign < -1 ∨ 1 < a_Sign) ∨ ¬ ((a_Digits.length : Int) = 0 ↔ a_Sign = 0)) := by have hqq := q6; rintro (h | h); omega; exact h (by first | exact hqq.2 | exact Classical.not_not.1 hqq.2)
  refine nm ((a_Digits.length : Int) - 1 : Int) fun n1 hn1 => ?_
  refine nm (a_Digits.getD n1.toNat default : Int) fun v2 hv2 => ?_
  refine nm ((decide ((a_Digits.length : Int) = 0)) || (!(decide (v2 = 0))) : Bool) fun p3 hp3 => ?_
  refine V.g [.k (iv (a_Digits.length : Int)),.k (bv (decide ((a_Digits.length : Int) = 0))),.k (bv (decide ((a_Digits.length : Int) = 0))),.k (pp ((G1 0).b) 1),.ld 0 1 false (fun _ => [a_Digitss.v]),.k (iv (a_Digits.length : Int)),.arg (gF (b := decide ((a_Digits.length : Int) = 0)) iDF) ((a_Digits.length : Int) - 1) n1 hn1 (fun hg => by omega),.ix (gF (b := decide ((a_Digits.length : Int) = 0)) iDF) (kf false (.f 0) a_Digits (fun _ => a_Digitss)) n1 (fun hg => ⟨by omega, by omega⟩),.le (gF (b := decide ((a_Digits.length : Int) = 0)) iDF) (kf false (.f 0) a_Digits (fun _ => a_Digitss)) n1 none false v2 hv2 (fun hg => ⟨by omega, by omega⟩) false (fun _ => [iv v2]),.k (bv (!(decide (v2 = 0)))),.orn g0 false (decide ((a_Digits.length : Int) = 0)) (!(decide (v2 = 0))) p3 hp3,.k (bv p3)] fun _ _ G10 => ?_
  intro S_ s_
  have e0 : p3 = decide (Bg.RtB a_Sign a_Digits) := by
    refine Bool.eq_iff_iff.2 (Iff.trans (iN hp3 (iOT iDT (iNT iDF))) (Iff.trans ?_ decide_eq_true_iff.symm))
    exact Bg.r4_fin (fun j hj => hf5 j (by omega)) h7n hv2 (by first | rfl | exact hn1)
  exact V.ret [0] [] [] [] [] [] (bv p3) (fun _ _ => by kernel_rfl) (fun _ _ => (Eq.trans (by kernel_rfl) (cong1 (fun (x0 : Bool) => (bv x0 : Value)) e0)).trans (by kernel_rfl)) (fun _ _ => trivial)
set_option maxRecDepth 10000 in
theorem r4trim_ct (l : List Int) (ls : SV) (hd : Bg.Dg l) (hll : l.length ≤ 140737488355) :
    Ct Try.prog 122 #[ls.v] [fs true l ls] [] (fun g => ((g.ss 0)).v) (fun g => [fs true (Bg.dig (Bg.nv l)) (g.ss 0)]) (fun g => []) (fun g => []) := by
  refine V.fn mo Try.func122 23 1 (by kernel_rfl) fun w H ε k0 => ?_
  obtain ⟨⟨kl1, -⟩, -⟩ : Lq l ls.v ∧ True := kn k0 (by kernel_rfl)
  clear k0
  refine V.g [.k (.slice none 0 0)] fun _ _ G1 => ?_
  intro S_ s_
  refine V.g [.k (ls.v),.ln (kf false (.f 0) l (fun _ => ls)),.k (iv (l.length : Int))] fun _ _ G2 => ?_
  intro S_ s_
  refine V.loop (γ := Int) (fun n => ⟨[(0, ls.v), (3, iv n)], [fs false l ls], [.no]⟩) (fun n => (0 ≤ n) ∧ (n ≤ (l.length : Int)) ∧ (∀ i, n.toNat ≤ i → i < l.length → l.getD i 0 = 0)) (fun n => n.toNat) (l.length : Int) (by kernel_rfl) [0] (by kernel_rfl) ?_ ?_
  · refine ⟨?_, ?_, ?_⟩
    · show 0 ≤ (l.length : Int)
      omega
    · show (l.length : Int) ≤ (l.length : Int)
      omega
    show ∀ i, (l.length : Int).toNat ≤ i → i < l.length → l.getD i 0 = 0
    intro i h1 h2; omega
  rintro n hF1 kw3 Z1 hZ1
  have hF1 : (0 ≤ n) ∧ (n ≤ (l.length : Int)) ∧ (∀ i, n.toNat ≤ i → i < l.length → l.getD i 0 = 0) := hF1
  obtain ⟨hf1, hf2, hf3⟩ := hF1
  clear kw3
  refine nm (l.getD (n - 1).toNat default : Int) fun v1 hv1 => ?_
  refine V.g [.k (iv n),.k (bv (decide (0 < n))),.k (bv (decide (0 < n))),.k (ls.v),.k (iv n),.arg (gT (b := decide (0 < n)) iDT) (n - 1) (n - 1) rfl (fun hg => by omega),.ix (gT (b := decide (0 < n)) iDT) (kf false (.f 0) l (fun _ => ls)) (n - 1) (fun hg => ⟨by omega, by omega⟩),.le (gT (b := decide (0 < n)) iDT) (kf false (.f 0) l (fun _ => ls)) (n - 1) none false v1 hv1 (fun hg => ⟨by omega, by omega⟩) false (fun _ => [iv v1]),.k (bv (decide (v1 = 0))),.and g0 false (decide (0 < n)) (decide (v1 = 0))] fun _ _ G3 => ?_
  intro S_ s_
  refine V.cond (b := (decide (0 < n)) && (decide (v1 = 0))) (iAT iDT iDT) (iAF iDF iDF) (by kernel_rfl) (fun q1 => ?_) (fun q2 => ?_)
  · refine V.g [.k (iv n),.a (n - 1) (by omega) (by omega),.k (iv (n - 1))] fun _ _ G4 => ?_
    intro S_ s_
    refine V.rnd hZ1 (n - 1) [0] (by kernel_rfl) ?_ ?_
    · refine ⟨?_, ?_, ?_⟩
      · show 0 ≤ (n - 1)
        omega
      · show (n - 1) ≤ (l.length : Int)
        omega
      show ∀ i, (n - 1).toNat ≤ i → i < l.length → l.getD i 0 = 0
      intro i h1 h2; by_cases e : n.toNat ≤ i
      · exact hf3 i e h2
      rw [show i = (n - 1).toNat by omega]; exact hv1.symm.trans q1.2
    show (n - 1).toNat < n.toNat
    omega
  refine nm (l.take n.toNat : List Int) fun l1 hl1 => ?_
  have hl1n := congrArg List.length hl1; try simp only [List.length_append, List.length_cons, List.length_nil, List.length_replicate, List.length_set, List.length_take, List.length_drop, List.length_map, List.length_reverse, List.length_range] at hl1n
  refine nm (([] : List Int) ++ l1 : List Int) fun l2 hl2 => ?_
  have hl2n := congrArg List.length hl2; try simp only [List.length_append, List.length_cons, List.length_nil, List.length_replicate, List.length_set, List.length_take, List.length_drop, List.length_map, List.length_reverse, List.length_range] at hl2n
  refine V.r [.nl 0 0 true 3 ([] : List Int) [] (fun _ _ _ _ _ => trivial) (fun _ => #[]),.k (ls.v),.k (iv n),.sl g0 (kf false (.f 0) l (fun _ => ls)) rfl none (some n) 0 n rfl rfl l1 (by rw [hl1]; simp) (fun _ => ⟨by omega, by omega, by omega⟩),.ap 4 0 3 8 false true ([] : List Int) (fun G => ⟨atB (G 0).b, 0, 0⟩) (kf false (.g 3 0) l1 (fun _ => (ls.sub 1 (0 : Int).toNat n.toNat))) true l2 hl2 (by (try simp only [List.length_append, List.length_cons, List.length_nil, List.length_replicate, List.length_set, List.length_take, List.length_drop, List.length_map, List.length_reverse, List.length_range]); omega) (fun h => by cases h) (.inr fun _ _ => trivial),.v fun G => ((G 4).s).v] fun _ _ G5 kw6 => ?_
  intro S_ s_
  obtain ⟨⟨kl2, -⟩, -⟩ : Lq l1 ((ls.sub 1 (0 : Int).toNat n.toNat).v) ∧ Lq l2 (((G5 4).s).v) ∧ True := kn kw6 (by kernel_rfl)
  clear kw6
  refine V.frz 0 true 3 l2 ((G5 4).s) (by kernel_rfl) ?_
  have e0 : l2 = Bg.dig (Bg.nv l) := by rw [hl2, hl1]; rw [List.nil_append]; exact Bg.trim_eq hd (by omega) hf3 (Bg.trim_stop (fun _ => hv1) q2)
  subst e0
  exact V.ret [0] [(G5 4).s] [fun _ => {}] [] [2] [] (((G5 4).s).v) (fun _ _ => by kernel_rfl) (fun _ _ => by kernel_rfl) (fun _ _ => trivial)
theorem r4trim_ctv (l : List Int) (ls : SV) (hd : Bg.Dg l) (hll : l.length ≤ 140737488355) (rv0 : List Int) (erv0 : rv0 = Bg.dig (Bg.nv l)) :
    Ct Try.prog 122 #[ls.v] [fs true l ls] [] (fun g => ((g.ss 0)).v) (fun g => [fs true rv0 (g.ss 0)]) (fun g => []) (fun g => []) := by
  subst erv0; exact r4trim_ct l ls hd hll
set_option maxRecDepth 10000 in
theorem r4made_ct (sign : Int) (l : List Int) (ls : SV) (hd : Bg.Dg l) (hll : l.length ≤ 140737488355) :
    Ct Try.prog 92 #[iv sign, ls.v] [fs true l ls] [] (fun g => ag (DBig.mk (Bg.sg0 (Bg.nv l) sign) ⟨Bg.dig (Bg.nv l), (g.ss 0)⟩)) (fun g => [fs true (Bg.dig (Bg.nv l)) (g.ss 0)]) (fun g => []) (fun g => []) := by
  refine V.fn mo Try.func92 15 1 (by kernel_rfl) fun w H ε k0 => ?_
  obtain ⟨⟨kl1, -⟩, -⟩ : Lq l ls.v ∧ True := kn k0 (by kernel_rfl)
  clear k0
  refine V.g [.nb 0 0 (fun b => pp b 0) 28 (fun _ => ca (DBig.mk 0 ⟨[], {}⟩))] fun _ _ G1 => ?_
  intro S_ s_
  refine nm (Bg.dig (Bg.nv l) : List Int) fun l1 hl1 => ?_
  have hl1n := congrArg List.length hl1
  refine V.r [.k (ls.v),.ct g0 1 122 false [] [] [(kf false (.f 0) l (fun _ => ls)).a] (fun _ G => r4trim_ctv l ls (by first | assumption | (subst_vars; exact Bg.dig_Dg _)) (by omega) l1 hl1),.v fun G => ((G 1).ss 0).v] fun _ _ G2 kw2 => ?_
  intro S_ s_
  obtain ⟨⟨kl2, -⟩, -⟩ : Lq l1 (((G2 1).ss 0).v) ∧ True := kn kw2 (by kernel_rfl)
  clear kw2
  refine V.g [.k (((G2 1).ss 0).v),.ln (kf true (.f 1) l1 (fun _ => (G2 1).ss 0)),.k (bv (decide ((l1.length : Int) = 0)))] fun _ _ G3 => ?_
  intro S_ s_
  refine V.cond (b := decide ((l1.length : Int) = 0)) iDT iDF (by kernel_rfl) (fun q1 => ?_) (fun q2 => ?_)
  · have hz : ((Bg.dig (Bg.nv l)).length : Int) = 0 := by have hqq := q1; subst_vars; exact hqq
    refine V.g [.k (ag (DBig.mk 0 ⟨[], {}⟩)),.st 0 (fun _ => .blk ((G1 0).b) (ca (DBig.mk 0 ⟨[], {}⟩)) 28)] fun _ _ G4 => ?_
    intro S_ s_
    refine V.nilF (α := Int) ?_
    have e1 : ([] : List Int) = Bg.dig (Bg.nv l) := Bg.made_d hz
    rw [← e1]
    have e0 : (0 : Int) = Bg.sg0 (Bg.nv l) sign := Bg.made_s hz
    exact V.ret [0] [{}] [fun _ => {}] [] [2] [] (ag (DBig.mk 0 ⟨([] : List Int), {}⟩)) (fun _ _ => by kernel_rfl) (fun _ _ => (Eq.trans (by kernel_rfl) (cong1 (fun (x0 : Int) => (.agg #[iv x0, SV.v ({})] : Value)) e0)).trans (by kernel_rfl)) (fun _ _ => trivial)
  have hz : ¬ ((Bg.dig (Bg.nv l)).length : Int) = 0 := by have hqq := q2; subst_vars; exact hqq
  refine V.g [.k (iv sign),.k (((G2 1).ss 0).v),.k (ag (DBig.mk sign ⟨l1, (G2 1).ss 0⟩)),.st 0 (fun _ => .blk ((G1 0).b) (ca (DBig.mk sign ⟨l1, (G2 1).ss 0⟩)) 28)] fun _ _ G5 => ?_
  intro S_ s_
  have e1 : l1 = Bg.dig (Bg.nv l) := by rw [hl1]
  subst e1
  have e0 : sign = Bg.sg0 (Bg.nv l) sign := Bg.made_s' hz
  exact V.ret [0] [(G2 1).ss 0] [fun _ => {}] [] [1] [] (ag (DBig.mk sign ⟨(Bg.dig (Bg.nv l)), (G2 1).ss 0⟩)) (fun _ _ => by kernel_rfl) (fun _ _ => (Eq.trans (by kernel_rfl) (cong1 (fun (x0 : Int) => (.agg #[iv x0, ((G2 1).ss 0).v] : Value)) e0)).trans (by kernel_rfl)) (fun _ _ => trivial)
theorem r4made_ctv (sign : Int) (l : List Int) (ls : SV) (hd : Bg.Dg l) (hll : l.length ≤ 140737488355) (rv0 : Int) (erv0 : rv0 = Bg.sg0 (Bg.nv l) sign) (rv1 : List Int) (erv1 : rv1 = Bg.dig (Bg.nv l)) :
    Ct Try.prog 92 #[iv sign, ls.v] [fs true l ls] [] (fun g => ag (DBig.mk rv0 ⟨rv1, (g.ss 0)⟩)) (fun g => [fs true rv1 (g.ss 0)]) (fun g => []) (fun g => []) := by
  subst erv0 erv1; exact r4made_ct sign l ls hd hll
set_option maxRecDepth 10000 in
theorem r4of_ct (n : Int) (hn : -9223372036854775808 ≤ n ∧ n ≤ 9223372036854775807) :
    Ct Try.prog 56 #[iv n] [] [] (fun g => ag (DBig.mk (Bg.sgn n) ⟨Bg.dig n.natAbs, (g.ss 0)⟩)) (fun g => [fs true (Bg.dig n.natAbs) (g.ss 0)]) (fun g => []) (fun g => []) := by
  refine V.fn mo Try.func56 28 2 (by kernel_rfl) fun w H ε k0 => ?_
  clear k0
  obtain ⟨N0, hN0⟩ : ∃ N0, N0 = n.natAbs := ⟨_, rfl⟩
  refine V.g [.nb 0 0 (fun b => pp b 0) 28 (fun _ => ca (DBig.mk 0 ⟨[], {}⟩))] fun _ _ G1 => ?_
  intro S_ s_
  refine V.g [.k (iv n),.k (bv (decide (n = 0)))] fun _ _ G2 => ?_
  intro S_ s_
  refine V.cond (b := decide (n = 0)) iDT iDF (by kernel_rfl) (fun q1 => ?_) (fun q2 => ?_)
  · refine V.g [.k (ag (DBig.mk 0 ⟨[], {}⟩)),.st 0 (fun _ => .blk ((G1 0).b) (ca (DBig.mk 0 ⟨[], {}⟩)) 28)] fun _ _ G3 => ?_
    intro S_ s_
    refine V.nilF (α := Int) ?_
    have e1 : ([] : List Int) = Bg.dig n.natAbs := by rw [show n = 0 from q1]; rfl
    rw [← e1]
    have e0 : (0 : Int) = Bg.sgn n := by rw [show n = 0 from q1]; rfl
    exact V.ret [0] [{}] [fun _ => {}] [] [0] [] (ag (DBig.mk 0 ⟨([] : List Int), {}⟩)) (fun _ _ => by kernel_rfl) (fun _ _ => (Eq.trans (by kernel_rfl) (cong1 (fun (x0 : Int) => (.agg #[iv x0, SV.v ({})] : Value)) e0)).trans (by kernel_rfl)) (fun _ _ => trivial)
  refine V.g [.k (iv 1)] fun _ _ G4 => ?_
  intro S_ s_
  refine V.g [.k (iv n),.k (bv (decide (n < 0)))] fun _ _ G5 => ?_
  intro S_ s_
  refine V.cut (γ := Int) (fun sign => ⟨[(0, iv n), (2, pp ((G1 0).b) 0), (3, iv sign)], [], [.blk ((G1 0).b) (ca (DBig.mk 0 ⟨[], {}⟩)) 28, .no]⟩) (fun sign => ((n < 0 ∧ sign = -1) ∨ (¬ n < 0 ∧ sign = 1))) ?_ ?_
  · rintro sign hF1 kw6
    have hf1 : (n < 0 ∧ sign = -1) ∨ (¬ n < 0 ∧ sign = 1) := hF1
    clear kw6
    refine V.g [.k (.slice none 0 0)] fun _ _ G6 => ?_
    intro S_ s_
    refine V.on (α := Int) 1 3 (by kernel_rfl) ?_
    refine V.loop (γ := Int × List Int × SV) (fun ⟨n_1, l, ls⟩ => ⟨[(0, iv n_1), (2, pp ((G1 0).b) 0), (3, iv sign), (4, ls.v)], [], [.blk ((G1 0).b) (ca (DBig.mk 0 ⟨[], {}⟩)) 28, os true 3 l ls]⟩) (fun ⟨n_1, l, ls⟩ => (-9223372036854775808 ≤ n_1 ∧ n_1 ≤ 9223372036854775807) ∧ (Bg.OfI N0 l ((n_1.natAbs : Nat) : Int)) ∧ (l.length ≤ 4)) (fun ⟨n_1, l, ls⟩ => n_1.natAbs) (n, ([] : List Int), {}) (by kernel_rfl) [] (by kernel_rfl) ?_ ?_
    · refine ⟨?_, ?_, ?_⟩
      · show -9223372036854775808 ≤ n ∧ n ≤ 9223372036854775807
        omega
      · show Bg.OfI N0 ([] : List Int) ((n.natAbs : Nat) : Int)
        exact Bg.of_start (by omega) (by omega)
      show ([] : List Int).length ≤ 4
      simp
    rintro ⟨n_1, l, ls⟩ hF2 kw8 Z1 hZ1
    have hF2 : (-9223372036854775808 ≤ n_1 ∧ n_1 ≤ 9223372036854775807) ∧ (Bg.OfI N0 l ((n_1.natAbs : Nat) : Int)) ∧ (l.length ≤ 4) := hF2
    obtain ⟨hf2, hf3, hf4⟩ := hF2
    obtain ⟨⟨kl1, -⟩, -⟩ : Lq l ls.v ∧ True := kn kw8 (by kernel_rfl)
    clear kw8
    have hol : n_1 ≠ 0 → l.length ≤ 3 := fun hne => Bg.of_len hf3 (by omega) (by omega)
    refine V.g [.k (iv n_1),.k (bv (!(decide (n_1 = 0))))] fun _ _ G7 => ?_
    intro S_ s_
    refine V.cond (b := !(decide (n_1 = 0))) (iNT iDF) (iNF iDT) (by kernel_rfl) (fun q3 => ?_) (fun q4 => ?_)
    · refine nm (n_1.tmod 1048576 : Int) fun n1 hn1 => ?_
      refine V.g [.k (iv n_1),.e g0 (iv (n_1.tmod 1048576)) (iv n1) (fun _ => by rw [hn1]),.k (iv n1)] fun _ _ G8 => ?_
      intro S_ s_
      refine V.g [.k (iv n1),.k (bv (decide (n1 < 0)))] fun _ _ G9 => ?_
      intro S_ s_
      refine V.cut (γ := Int) (fun d => ⟨[(0, iv n_1), (2, pp ((G1 0).b) 0), (3, iv sign), (4, ls.v), (5, iv d)], [], [.blk ((G1 0).b) (ca (DBig.mk 0 ⟨[], {}⟩)) 28, os true 3 l ls]⟩) (fun d => (d = ((n_1.natAbs % 1048576 : Nat) : Int))) ?_ ?_
      · rintro d hF3 kw12
        have hf5 : d = ((n_1.natAbs % 1048576 : Nat) : Int) := hF3
        clear kw12
        refine nm (l ++ [d] : List Int) fun l1 hl1 => ?_
        have hl1n := congrArg List.length hl1; try simp only [List.length_append, List.length_cons, List.length_nil, List.length_replicate, List.length_set, List.length_take, List.length_drop, List.length_map, List.length_reverse, List.length_range] at hl1n
        refine V.r [.k (ls.v),.k (iv d),.nr 2 true 3 [d] [] (fun _ _ _ _ _ => trivial) (fun _ => #[iv d]),.ap 3 1 3 8 false true l (fun _ => ls) (kf true (.g 2 0) [d] (fun G => ⟨atB (G 2).b, 1, 1⟩)) true l1 hl1 (by (try simp only [List.length_append, List.length_cons, List.length_nil, List.length_replicate, List.length_set, List.length_take, List.length_drop, List.length_map, List.length_reverse, List.length_range]); omega) (fun h => by cases h) (.inr fun _ _ => trivial),.v fun G => ((G 3).s).v] fun _ _ G10 kw13 => ?_
        intro S_ s_
        obtain ⟨⟨kl2, -⟩, -⟩ : Lq [d] (SV.v ⟨atB (G10 2).b, 1, 1⟩) ∧ Lq l1 (((G10 3).s).v) ∧ True := kn kw13 (by kernel_rfl)
        clear kw13
        refine nm (n_1.tdiv 1048576 : Int) fun n2 hn2 => ?_
        refine V.g [.k (iv n_1),.e g0 (.int .i64 (IntKind.i64.wrap (n_1.tdiv 1048576))) (iv n2) (fun _ => by rw [← hn2]; congr 1; rw [IntKind.wrap_i64]; have h1 := Bg.tdiv_abs (n := n_1); rw [← hn2] at h1; omega),.k (iv n2)] fun _ _ G11 => ?_
        intro S_ s_
        refine V.rnd hZ1 (n2, l1, (G10 3).s) [] (by kernel_rfl) ?_ ?_
        · refine ⟨?_, ?_, ?_⟩
          · show -9223372036854775808 ≤ n2 ∧ n2 ≤ 9223372036854775807
            have h1 := @Bg.tdiv_abs n_1; rw [← hn2] at h1; omega
          · show Bg.OfI N0 l1 ((n2.natAbs : Nat) : Int)
            have hst := Bg.of_step hf3
            rw [hl1, hf5, show ((n2.natAbs : Nat) : Int) = ((n_1.natAbs : Nat) : Int) / 1048576 by rw [hn2, Bg.tdiv_abs]; omega]
            rw [show ((n_1.natAbs : Nat) : Int) % 1048576 = ((n_1.natAbs % 1048576 : Nat) : Int) by omega] at hst; exact hst
          show l1.length ≤ 4
          omega
        show n2.natAbs < n_1.natAbs
        rw [hn2]
        have h1 := @Bg.tdiv_abs n_1; rw [← hn2] at h1; omega
      intro Z2 hZ2
      refine V.cond (b := decide (n1 < 0)) iDT iDF (by kernel_rfl) (fun q5 => ?_) (fun q6 => ?_)
      · have h1 := Bg.tmod_abs hn1; rw [if_pos q5] at h1
        refine V.g [.k (iv n1),.ng n1 (-n1) rfl (by omega) (by omega),.k (iv (-n1))] fun _ _ G12 => ?_
        intro S_ s_
        refine V.rnd hZ2 (-n1) [] (by kernel_rfl) ?_ ?_
        · · show (-n1) = ((n_1.natAbs % 1048576 : Nat) : Int)
            have h := Bg.tmod_abs hn1; rw [if_pos q5] at h; exact h
        trivial
      refine V.rnd hZ2 n1 [] (by kernel_rfl) ?_ ?_
      · · show n1 = ((n_1.natAbs % 1048576 : Nat) : Int)
          have h := Bg.tmod_abs hn1; rw [if_neg q6] at h; exact h
      trivial
    have hnz : n_1 = 0 := by have hqq := q4; first | exact hqq | exact Decidable.not_not.1 hqq
    have hO1 := hf3
    have hO2 := Bg.of_end hO1 (by rw [hnz]; decide)
    have hO3 := hO1.dg
    refine nm (Bg.sg0 (Bg.nv l) sign : Int) fun n3 hn3 => ?_
    refine nm (Bg.dig (Bg.nv l) : List Int) fun l2 hl2 => ?_
    have hl2n := congrArg List.length hl2
    refine V.r [.k (iv sign),.k (ls.v),.ct g0 2 92 false [] [] [(ko true 3 1 l (fun _ => ls)).a] (fun _ G => r4made_ctv sign l ls hO3 (by omega) n3 hn3 l2 hl2),.st 0 (fun G => .blk ((G1 0).b) (ca (DBig.mk n3 ⟨l2, (G 2).ss 0⟩)) 28)] fun _ _ G13 kw16 => ?_
    intro S_ s_
    obtain ⟨⟨kl3, -⟩, -⟩ : Lq l2 (((G13 2).ss 0).v) ∧ Lq l ls.v ∧ True := kn kw16 (by kernel_rfl)
    clear kw16
    have e1 : l2 = Bg.dig n.natAbs := by subst_vars; rw [hO2]
    subst e1
    have e0 : n3 = Bg.sgn n := by subst_vars; rw [hO2]; exact Bg.of_sgn rfl _ (by omega)
    exact V.ret [0] [(G13 2).ss 0] [fun _ => {}] [] [0] [] (ag (DBig.mk n3 ⟨(Bg.dig n.natAbs), (G13 2).ss 0⟩)) (fun _ _ => by kernel_rfl) (fun _ _ => (Eq.trans (by kernel_rfl) (cong1 (fun (x0 : Int) => (.agg #[iv x0, ((G13 2).ss 0).v] : Value)) e0)).trans (by kernel_rfl)) (fun _ _ => trivial)
  intro Z3 hZ3
  refine V.cond (b := decide (n < 0)) iDT iDF (by kernel_rfl) (fun q7 => ?_) (fun q8 => ?_)
  · refine V.g [.k (iv (-1))] fun _ _ G14 => ?_
    intro S_ s_
    refine V.rnd hZ3 (-1) [] (by kernel_rfl) ?_ ?_
    · · show (n < 0 ∧ (-1 : Int) = -1) ∨ (¬ n < 0 ∧ (-1 : Int) = 1)
        omega
    trivial
  refine V.rnd hZ3 1 [] (by kernel_rfl) ?_ ?_
  · · show (n < 0 ∧ (1 : Int) = -1) ∨ (¬ n < 0 ∧ (1 : Int) = 1)
      omega
  trivial
theorem r4of_ctv (n : Int) (hn : -9223372036854775808 ≤ n ∧ n ≤ 9223372036854775807) (rv0 : Int) (erv0 : rv0 = Bg.sgn n) (rv1 : List Int) (erv1 : rv1 = Bg.dig n.natAbs) :
    Ct Try.prog 56 #[iv n] [] [] (fun g => ag (DBig.mk rv0 ⟨rv1, (g.ss 0)⟩)) (fun g => [fs true rv1 (g.ss 0)]) (fun g => []) (fun g => []) := by
  subst erv0 erv1; exact r4of_ct n hn

open Go Go.Proofs
set_option maxRecDepth 10000 in
theorem r4digit_ct (l : List Int) (ls : SV) (i : Int) (h0 : 0 ≤ i) :
    Cp Try.prog 134 #[ls.v, iv i] [fs true l ls] (iv (l.getD i.toNat 0)) := by
  refine V.fn mo Try.func134 13 0 (by kernel_rfl) fun w H ε k0 => ?_
  obtain ⟨⟨kl1, -⟩, -⟩ : Lq l ls.v ∧ True := kn k0 (by kernel_rfl)
  clear k0
  refine V.g [.k (iv 0)] fun _ _ G1 => ?_
  intro S_ s_
  refine V.g [.k (iv i),.k (ls.v),.ln (kf false (.f 0) l (fun _ => ls)),.k (bv (decide (i < (l.length : Int))))] fun _ _ G2 => ?_
  intro S_ s_
  refine V.cond (b := decide (i < (l.length : Int))) iDT iDF (by kernel_rfl) (fun q1 => ?_) (fun q2 => ?_)
  · refine nm (l.getD i.toNat default : Int) fun v1 hv1 => ?_
    refine V.g [.k (ls.v),.k (iv i),.ix g0 (kf false (.f 0) l (fun _ => ls)) i (fun _ => ⟨by omega, by omega⟩),.le g0 (kf false (.f 0) l (fun _ => ls)) i none false v1 hv1 (fun _ => ⟨by omega, by omega⟩) false (fun _ => [iv v1]),.k (iv v1)] fun _ _ G3 => ?_
    intro S_ s_
    have e0 : v1 = l.getD i.toNat 0 := hv1
    exact V.ret [0] [] [] [] [] [] (iv v1) (fun _ _ => by kernel_rfl) (fun _ _ => (Eq.trans (by kernel_rfl) (cong1 (fun (x0 : Int) => (iv x0 : Value)) e0)).trans (by kernel_rfl)) (fun _ _ => trivial)
  refine V.g [.k (iv 0)] fun _ _ G4 => ?_
  intro S_ s_
  have e0 : (0 : Int) = l.getD i.toNat 0 := (Bg.getD_out (by omega)).symm
  exact V.ret [0] [] [] [] [] [] (iv 0) (fun _ _ => by kernel_rfl) (fun _ _ => (Eq.trans (by kernel_rfl) (cong1 (fun (x0 : Int) => (iv x0 : Value)) e0)).trans (by kernel_rfl)) (fun _ _ => trivial)
theorem r4digit_ctv (l : List Int) (ls : SV) (i : Int) (h0 : 0 ≤ i) (rv0 : Int) (erv0 : rv0 = l.getD i.toNat 0) :
    Cp Try.prog 134 #[ls.v, iv i] [fs true l ls] (iv rv0) := by
  subst erv0; exact r4digit_ct l ls i h0
set_option maxRecDepth 10000 in
theorem r4less_ct (a : List Int) (as_ : SV) (b : List Int) (bs : SV) (hda : Bg.Dg a) (hdb : Bg.Dg b) :
    Cp Try.prog 132 #[as_.v, bs.v] [fs true a as_, fs true b bs] (bv (decide (Bg.nv a < Bg.nv b))) := by
  refine V.fn mo Try.func132 30 0 (by kernel_rfl) fun w H ε k0 => ?_
  obtain ⟨⟨kl1, -⟩, ⟨kl2, -⟩, -⟩ : Lq a as_.v ∧ Lq b bs.v ∧ True := kn k0 (by kernel_rfl)
  clear k0
  refine V.g [.kb false] fun _ _ G1 => ?_
  intro S_ s_
  refine nm (max (a.length : Int) (b.length : Int) - 1 : Int) fun n1 hn1 => ?_
  refine V.g [.k (as_.v),.ln (kf false (.f 0) a (fun _ => as_)),.k (bs.v),.ln (kf false (.f 1) b (fun _ => bs)),.mx (a.length : Int) (b.length : Int),.ar (max (a.length : Int) (b.length : Int) - 1) n1 hn1 (by omega) (by omega),.k (iv n1)] fun _ _ G2 => ?_
  intro S_ s_
  refine V.loop (γ := Int) (fun i => ⟨[(0, as_.v), (1, bs.v), (5, iv i)], [fs false a as_, fs false b bs], []⟩) (fun i => (-1 ≤ i) ∧ (i < 9223372036854775807) ∧ (Bg.nv (a.drop (i + 1).toNat) = Bg.nv (b.drop (i + 1).toNat))) (fun i => (i + 1).toNat) n1 (by kernel_rfl) [0, 1] (by kernel_rfl) ?_ ?_
  · refine ⟨?_, ?_, ?_⟩
    · show -1 ≤ n1
      omega
    · show n1 < 9223372036854775807
      omega
    show Bg.nv (a.drop (n1 + 1).toNat) = Bg.nv (b.drop (n1 + 1).toNat)
    rw [List.drop_of_length_le (by omega), List.drop_of_length_le (by omega)]
  rintro i hF1 kw3 Z1 hZ1
  have hF1 : (-1 ≤ i) ∧ (i < 9223372036854775807) ∧ (Bg.nv (a.drop (i + 1).toNat) = Bg.nv (b.drop (i + 1).toNat)) := hF1
  obtain ⟨hf1, hf2, hf3⟩ := hF1
  clear kw3
  refine V.g [.k (iv i),.k (bv (decide (0 ≤ i)))] fun _ _ G3 => ?_
  intro S_ s_
  refine V.cond (b := decide (0 ≤ i)) iDT iDF (by kernel_rfl) (fun q1 => ?_) (fun q2 => ?_)
  · refine nm (a.getD i.toNat 0 : Int) fun n2 hn2 => ?_
    refine nm (b.getD i.toNat 0 : Int) fun n3 hn3 => ?_
    refine V.g [.k (as_.v),.k (iv i),.cp g0 2 134 [(kf false (.f 0) a (fun _ => as_)).a] (fun _ G => r4digit_ctv a as_ i (by omega) n2 hn2),.k (bs.v),.k (iv i),.cp g0 5 134 [(kf false (.f 1) b (fun _ => bs)).a] (fun _ G => r4digit_ctv b bs i (by omega) n3 hn3),.k (bv (!(decide (n2 = n3))))] fun _ _ G4 => ?_
    intro S_ s_
    refine V.cond (b := !(decide (n2 = n3))) (iNT iDF) (iNF iDT) (by kernel_rfl) (fun q3 => ?_) (fun q4 => ?_)
    · refine V.g [.k (as_.v),.k (iv i),.cp g0 2 134 [(kf false (.f 0) a (fun _ => as_)).a] (fun _ G => r4digit_ctv a as_ i (by omega) n2 hn2),.k (bs.v),.k (iv i),.cp g0 5 134 [(kf false (.f 1) b (fun _ => bs)).a] (fun _ G => r4digit_ctv b bs i (by omega) n3 hn3),.k (bv (decide (n2 < n3))),.k (bv (decide (n2 < n3)))] fun _ _ G5 => ?_
      intro S_ s_
      have e0 : (decide (n2 < n3)) = decide (Bg.nv a < Bg.nv b) := by exact decide_eq_decide.2 (by rw [hn2, hn3]; exact Bg.less_at (i := i.toNat) hda hdb (by rw [show i.toNat + 1 = (i + 1).toNat by omega]; exact hf3) (by rw [← hn2, ← hn3]; exact q3))
      exact V.ret [0] [] [] [] [] [] (bv (decide (n2 < n3))) (fun _ _ => by kernel_rfl) (fun _ _ => (Eq.trans (by kernel_rfl) (cong1 (fun (x0 : Bool) => (bv x0 : Value)) e0)).trans (by kernel_rfl)) (fun _ _ => trivial)
    refine V.g [.k (iv i),.a (i - 1) (by omega) (by omega),.k (iv (i - 1))] fun _ _ G6 => ?_
    intro S_ s_
    refine V.rnd hZ1 (i - 1) [0, 1] (by kernel_rfl) ?_ ?_
    · refine ⟨?_, ?_, ?_⟩
      · show -1 ≤ (i - 1)
        omega
      · show (i - 1) < 9223372036854775807
        omega
      show Bg.nv (a.drop ((i - 1) + 1).toNat) = Bg.nv (b.drop ((i - 1) + 1).toNat)
      rw [show (i - 1 + 1).toNat = i.toNat by omega]; exact Bg.less_go (i := i.toNat) (by rw [show i.toNat + 1 = (i + 1).toNat by omega]; exact hf3) (by rw [← hn2, ← hn3]; have hqq := q4; first | exact hqq | exact Decidable.not_not.1 hqq)
    show ((i - 1) + 1).toNat < (i + 1).toNat
    omega
  refine V.g [.kb false] fun _ _ G7 => ?_
  intro S_ s_
  have e0 : false = decide (Bg.nv a < Bg.nv b) := by exact (decide_eq_false (by have hdr := hf3; rw [show (i + 1).toNat = 0 by omega, List.drop_zero, List.drop_zero] at hdr; omega)).symm
  exact V.ret [0] [] [] [] [] [] (bv false) (fun _ _ => by kernel_rfl) (fun _ _ => (Eq.trans (by kernel_rfl) (cong1 (fun (x0 : Bool) => (bv x0 : Value)) e0)).trans (by kernel_rfl)) (fun _ _ => trivial)
set_option maxRecDepth 10000 in
theorem r4plus_ct (a : List Int) (as_ : SV) (b : List Int) (bs : SV) (hda : Bg.Dg a) (hdb : Bg.Dg b) (hla : a.length ≤ 68719476736) (hlb : b.length ≤ 68719476736) :
    Ct Try.prog 120 #[as_.v, bs.v] [fs true a as_, fs true b bs] [] (fun g => ((g.ss 0)).v) (fun g => [fs true (Bg.dig (Bg.nv a + Bg.nv b)) (g.ss 0)]) (fun g => []) (fun g => []) := by
  refine V.fn mo Try.func120 43 1 (by kernel_rfl) fun w H ε k0 => ?_
  obtain ⟨⟨kl1, -⟩, ⟨kl2, -⟩, -⟩ : Lq a as_.v ∧ Lq b bs.v ∧ True := kn k0 (by kernel_rfl)
  clear k0
  refine V.g [.k (.slice none 0 0)] fun _ _ G1 => ?_
  intro S_ s_
  refine V.g [.k (.slice none 0 0)] fun _ _ G2 => ?_
  intro S_ s_
  refine V.g [.k (iv 0)] fun _ _ G3 => ?_
  intro S_ s_
  refine V.g [.k (iv 0)] fun _ _ G4 => ?_
  intro S_ s_
  refine V.on (α := Int) 0 3 (by kernel_rfl) ?_
  refine V.loop (γ := List Int × SV × Int × Int) (fun ⟨out, outs, carry, i⟩ => ⟨[(0, as_.v), (1, bs.v), (5, outs.v), (6, iv carry), (7, iv i)], [fs false a as_, fs false b bs], [os true 3 out outs]⟩) (fun ⟨out, outs, carry, i⟩ => (Bg.PluI a b out i.toNat carry) ∧ (0 ≤ i) ∧ (i ≤ max (a.length : Int) (b.length : Int) + 1) ∧ (i = max (a.length : Int) (b.length : Int) + 1 → carry = 0)) (fun ⟨out, outs, carry, i⟩ => (max (a.length : Int) (b.length : Int) + 2 - i).toNat) (([] : List Int), {}, 0, 0) (by kernel_rfl) [0, 1] (by kernel_rfl) ?_ ?_
  · refine ⟨?_, ?_, ?_, ?_⟩
    · show Bg.PluI a b ([] : List Int) (0 : Int).toNat (0 : Int)
      exact Bg.plu_start _ _
    · show 0 ≤ (0 : Int)
      omega
    · show (0 : Int) ≤ max (a.length : Int) (b.length : Int) + 1
      omega
    show (0 : Int) = max (a.length : Int) (b.length : Int) + 1 → (0 : Int) = 0
    omega
  rintro ⟨out, outs, carry, i⟩ hF1 kw5 Z1 hZ1
  have hF1 : (Bg.PluI a b out i.toNat carry) ∧ (0 ≤ i) ∧ (i ≤ max (a.length : Int) (b.length : Int) + 1) ∧ (i = max (a.length : Int) (b.length : Int) + 1 → carry = 0) := hF1
  obtain ⟨hf1, hf2, hf3, hf4⟩ := hF1
  obtain ⟨-, -, ⟨kl3, -⟩, -⟩ : Lq a as_.v ∧ Lq b bs.v ∧ Lq out outs.v ∧ True := kn kw5 (by kernel_rfl)
  clear kw5
  have hol := hf1.len; have hpc := hf1.c0
  refine nm ((decide (i < (a.length : Int))) || (decide (i < (b.length : Int))) : Bool) fun p1 hp1 => ?_
  refine V.g [.k (iv i),.k (as_.v),.ln (kf false (.f 0) a (fun _ => as_)),.k (bv (decide (i < (a.length : Int)))),.k (bv (decide (i < (a.length : Int)))),.k (iv i),.k (bs.v),.ln (kf false (.f 1) b (fun _ => bs)),.k (bv (decide (i < (b.length : Int)))),.orn g0 false (decide (i < (a.length : Int))) (decide (i < (b.length : Int))) p1 hp1,.k (bv p1),.k (iv carry),.k (bv (decide (0 < carry))),.or g0 false p1 (decide (0 < carry))] fun _ _ G5 => ?_
  intro S_ s_
  refine V.cond (b := p1 || (decide (0 < carry))) (iOT (iN hp1 (iOT iDT iDT)) iDT) (iOF (iN hp1 (iOF iDF iDF)) iDF) (by kernel_rfl) (fun q1 => ?_) (fun q2 => ?_)
  · refine nm (a.getD i.toNat 0 : Int) fun n1 hn1 => ?_
    refine nm (b.getD i.toNat 0 : Int) fun n2 hn2 => ?_
    refine nm (n1 + n2 + carry : Int) fun n3 hn3 => ?_
    have hb1 := hda.get' i.toNat; have hb2 := hdb.get' i.toNat; rw [← hn1] at hb1; rw [← hn2] at hb2
    have hc0 := hf1.c0
    have hz1 : ¬ i < (a.length : Int) → n1 = 0 := fun h => by rw [hn1]; exact Bg.getD_out (by omega)
    have hz2 : ¬ i < (b.length : Int) → n2 = 0 := fun h => by rw [hn2]; exact Bg.getD_out (by omega)
    refine V.g [.k (as_.v),.k (iv i),.cp g0 2 134 [(kf false (.f 0) a (fun _ => as_)).a] (fun _ G => r4digit_ctv a as_ i (by omega) n1 hn1),.k (bs.v),.k (iv i),.cp g0 5 134 [(kf false (.f 1) b (fun _ => bs)).a] (fun _ G => r4digit_ctv b bs i (by omega) n2 hn2),.a (n1 + n2) (by omega) (by omega),.k (iv carry),.ar (n1 + n2 + carry) n3 hn3 (by omega) (by omega),.k (iv n3)] fun _ _ G6 => ?_
    intro S_ s_
    refine nm (n3 % 1048576 : Int) fun n4 hn4 => ?_
    refine nm (out ++ [n4] : List Int) fun l1 hl1 => ?_
    have hl1n := congrArg List.length hl1; try simp only [List.length_append, List.length_cons, List.length_nil, List.length_replicate, List.length_set, List.length_take, List.length_drop, List.length_map, List.length_reverse, List.length_range] at hl1n
    refine V.r [.k (outs.v),.k (iv n3),.rem g0 n3 1048576 n4 hn4 (fun _ => by omega),.nr 3 true 3 [n4] [] (fun _ _ _ _ _ => trivial) (fun _ => #[iv n4]),.ap 4 0 3 8 false true out (fun _ => outs) (kf true (.g 3 0) [n4] (fun G => ⟨atB (G 3).b, 1, 1⟩)) true l1 hl1 (by (try simp only [List.length_append, List.length_cons, List.length_nil, List.length_replicate, List.length_set, List.length_take, List.length_drop, List.length_map, List.length_reverse, List.length_range]); omega) (fun h => by cases h) (.inr fun _ _ => trivial),.v fun G => ((G 4).s).v] fun _ _ G7 kw8 => ?_
    intro S_ s_
    obtain ⟨⟨kl4, -⟩, -⟩ : Lq [n4] (SV.v ⟨atB (G7 3).b, 1, 1⟩) ∧ Lq l1 (((G7 4).s).v) ∧ True := kn kw8 (by kernel_rfl)
    clear kw8
    refine nm (n3 / 1048576 : Int) fun n5 hn5 => ?_
    refine V.g [.k (iv n3),.quo g0 n3 1048576 n5 hn5 (fun _ => ⟨by omega, by omega⟩) (fun _ => by omega),.k (iv n5)] fun _ _ G8 => ?_
    intro S_ s_
    refine V.g [.k (iv i),.a (i + 1) (by omega) (by omega),.k (iv (i + 1))] fun _ _ G9 => ?_
    intro S_ s_
    refine V.rnd hZ1 (l1, (G7 4).s, n5, i + 1) [0, 1] (by kernel_rfl) ?_ ?_
    · refine ⟨?_, ?_, ?_, ?_⟩
      · show Bg.PluI a b l1 (i + 1).toNat n5
        rw [hl1, hn4, hn5, show (i + 1).toNat = i.toNat + 1 by omega]; exact Bg.plu_step hf1 hda hdb (by rw [← hn1, ← hn2]; omega)
      · show 0 ≤ (i + 1)
        omega
      · show (i + 1) ≤ max (a.length : Int) (b.length : Int) + 1
        omega
      show (i + 1) = max (a.length : Int) (b.length : Int) + 1 → n5 = 0
      omega
    show (max (a.length : Int) (b.length : Int) + 2 - (i + 1)).toNat < (max (a.length : Int) (b.length : Int) + 2 - i).toNat
    omega
  have hen := Bg.plu_end hf1 (by omega) (by omega) (by omega)
  have hdg := hf1.dg
  refine nm (Bg.dig (Bg.nv out) : List Int) fun l2 hl2 => ?_
  have hl2n := congrArg List.length hl2
  refine V.r [.k (outs.v),.ct g0 1 122 false [] [] [(ko true 3 0 out (fun _ => outs)).a] (fun _ G => r4trim_ctv out outs hdg (by omega) l2 hl2),.v fun G => ((G 1).ss 0).v] fun _ _ G10 kw11 => ?_
  intro S_ s_
  obtain ⟨⟨kl5, -⟩, -⟩ : Lq l2 (((G10 1).ss 0).v) ∧ Lq out outs.v ∧ True := kn kw11 (by kernel_rfl)
  clear kw11
  have e0 : l2 = Bg.dig (Bg.nv a + Bg.nv b) := by
    rw [hl2]
    rw [hen]
  subst e0
  exact V.ret [0] [(G10 1).ss 0] [fun _ => {}] [] [2] [] (((G10 1).ss 0).v) (fun _ _ => by kernel_rfl) (fun _ _ => by kernel_rfl) (fun _ _ => trivial)
theorem r4plus_ctv (a : List Int) (as_ : SV) (b : List Int) (bs : SV) (hda : Bg.Dg a) (hdb : Bg.Dg b) (hla : a.length ≤ 68719476736) (hlb : b.length ≤ 68719476736) (rv0 : List Int) (erv0 : rv0 = Bg.dig (Bg.nv a + Bg.nv b)) :
    Ct Try.prog 120 #[as_.v, bs.v] [fs true a as_, fs true b bs] [] (fun g => ((g.ss 0)).v) (fun g => [fs true rv0 (g.ss 0)]) (fun g => []) (fun g => []) := by
  subst erv0; exact r4plus_ct a as_ b bs hda hdb hla hlb
set_option maxRecDepth 10000 in
theorem r4minus_ct (a : List Int) (as_ : SV) (b : List Int) (bs : SV) (hda : Bg.Dg a) (hdb : Bg.Dg b) (hla : a.length ≤ 68719476736) (hle : Bg.nv b ≤ Bg.nv a) :
    Ct Try.prog 121 #[as_.v, bs.v] [fs true a as_, fs true b bs] [] (fun g => ((g.ss 0)).v) (fun g => [fs true (Bg.dig (Bg.nv a - Bg.nv b)) (g.ss 0)]) (fun g => []) (fun g => []) := by
  refine V.fn mo Try.func121 35 1 (by kernel_rfl) fun w H ε k0 => ?_
  obtain ⟨⟨kl1, -⟩, ⟨kl2, -⟩, -⟩ : Lq a as_.v ∧ Lq b bs.v ∧ True := kn k0 (by kernel_rfl)
  clear k0
  refine V.g [.k (.slice none 0 0)] fun _ _ G1 => ?_
  intro S_ s_
  refine V.g [.k (.slice none 0 0)] fun _ _ G2 => ?_
  intro S_ s_
  refine V.g [.k (iv 0)] fun _ _ G3 => ?_
  intro S_ s_
  refine V.g [.k (iv 0)] fun _ _ G4 => ?_
  intro S_ s_
  refine V.on (α := Int) 0 3 (by kernel_rfl) ?_
  refine V.loop (γ := List Int × SV × Int × Int) (fun ⟨out, outs, borrow, i⟩ => ⟨[(0, as_.v), (1, bs.v), (5, outs.v), (6, iv borrow), (7, iv i)], [fs false a as_, fs false b bs], [os true 3 out outs]⟩) (fun ⟨out, outs, borrow, i⟩ => (0 ≤ i) ∧ (i ≤ (a.length : Int)) ∧ (Bg.MinI a b out i.toNat borrow) ∧ (0 ≤ i) ∧ (i ≤ (a.length : Int))) (fun ⟨out, outs, borrow, i⟩ => ((a.length : Int) - i).toNat) (([] : List Int), {}, 0, 0) (by kernel_rfl) [0, 1] (by kernel_rfl) ?_ ?_
  · refine ⟨?_, ?_, ?_, ?_, ?_⟩
    · show 0 ≤ (0 : Int)
      omega
    · show (0 : Int) ≤ (a.length : Int)
      omega
    · show Bg.MinI a b ([] : List Int) (0 : Int).toNat (0 : Int)
      exact Bg.min_start _ _
    · show 0 ≤ (0 : Int)
      omega
    show (0 : Int) ≤ (a.length : Int)
    omega
  rintro ⟨out, outs, borrow, i⟩ hF1 kw5 Z1 hZ1
  have hF1 : (0 ≤ i) ∧ (i ≤ (a.length : Int)) ∧ (Bg.MinI a b out i.toNat borrow) ∧ (0 ≤ i) ∧ (i ≤ (a.length : Int)) := hF1
  obtain ⟨hf1, hf2, hf3, hf4, hf5⟩ := hF1
  obtain ⟨-, -, ⟨kl3, -⟩, -⟩ : Lq a as_.v ∧ Lq b bs.v ∧ Lq out outs.v ∧ True := kn kw5 (by kernel_rfl)
  clear kw5
  have hol := hf3.len
  refine V.g [.k (iv i),.k (as_.v),.ln (kf false (.f 0) a (fun _ => as_)),.k (bv (decide (i < (a.length : Int))))] fun _ _ G5 => ?_
  intro S_ s_
  refine V.cond (b := decide (i < (a.length : Int))) iDT iDF (by kernel_rfl) (fun q1 => ?_) (fun q2 => ?_)
  · refine nm (a.getD i.toNat default : Int) fun v1 hv1 => ?_
    refine nm (b.getD i.toNat 0 : Int) fun n1 hn1 => ?_
    refine nm (v1 - n1 - borrow : Int) fun n2 hn2 => ?_
    have hb1 := hda.get' i.toNat; have hb2 := hdb.get' i.toNat; rw [← hn1] at hb2
    have hv0 : a.getD i.toNat 0 = v1 := hv1.symm
    rw [hv0] at hb1
    have hc0 := hf3.c0
    refine V.g [.k (as_.v),.k (iv i),.ix g0 (kf false (.f 0) a (fun _ => as_)) i (fun _ => ⟨by omega, by omega⟩),.le g0 (kf false (.f 0) a (fun _ => as_)) i none false v1 hv1 (fun _ => ⟨by omega, by omega⟩) false (fun _ => [iv v1]),.k (bs.v),.k (iv i),.cp g0 6 134 [(kf false (.f 1) b (fun _ => bs)).a] (fun _ G => r4digit_ctv b bs i (by omega) n1 hn1),.a (v1 - n1) (by omega) (by omega),.k (iv borrow),.ar (v1 - n1 - borrow) n2 hn2 (by omega) (by omega),.k (iv n2)] fun _ _ G6 => ?_
    intro S_ s_
    refine V.g [.k (iv 0)] fun _ _ G7 => ?_
    intro S_ s_
    refine V.g [.k (iv n2),.k (bv (decide (n2 < 0)))] fun _ _ G8 => ?_
    intro S_ s_
    refine V.cond (b := decide (n2 < 0)) iDT iDF (by kernel_rfl) (fun q3 => ?_) (fun q4 => ?_)
    · refine V.g [.k (iv n2),.a (n2 + 1048576) (by omega) (by omega),.k (iv (n2 + 1048576))] fun _ _ G9 => ?_
      intro S_ s_
      refine V.g [.k (iv 1)] fun _ _ G10 => ?_
      intro S_ s_
      refine nm (out ++ [n2 + 1048576] : List Int) fun l1 hl1 => ?_
      have hl1n := congrArg List.length hl1; try simp only [List.length_append, List.length_cons, List.length_nil, List.length_replicate, List.length_set, List.length_take, List.length_drop, List.length_map, List.length_reverse, List.length_range] at hl1n
      refine V.r [.k (outs.v),.k (iv (n2 + 1048576)),.nr 2 true 3 [n2 + 1048576] [] (fun _ _ _ _ _ => trivial) (fun _ => #[iv (n2 + 1048576)]),.ap 3 0 3 8 false true out (fun _ => outs) (kf true (.g 2 0) [n2 + 1048576] (fun G => ⟨atB (G 2).b, 1, 1⟩)) true l1 hl1 (by (try simp only [List.length_append, List.length_cons, List.length_nil, List.length_replicate, List.length_set, List.length_take, List.length_drop, List.length_map, List.length_reverse, List.length_range]); omega) (fun h => by cases h) (.inr fun _ _ => trivial),.v fun G => ((G 3).s).v] fun _ _ G11 kw12 => ?_
      intro S_ s_
      obtain ⟨⟨kl4, -⟩, -⟩ : Lq [n2 + 1048576] (SV.v ⟨atB (G11 2).b, 1, 1⟩) ∧ Lq l1 (((G11 3).s).v) ∧ True := kn kw12 (by kernel_rfl)
      clear kw12
      refine V.g [.k (iv i),.a (i + 1) (by omega) (by omega),.k (iv (i + 1))] fun _ _ G12 => ?_
      intro S_ s_
      refine V.rnd hZ1 (l1, (G11 3).s, 1, i + 1) [0, 1] (by kernel_rfl) ?_ ?_
      · refine ⟨?_, ?_, ?_, ?_, ?_⟩
        · show 0 ≤ (i + 1)
          omega
        · show (i + 1) ≤ (a.length : Int)
          omega
        · show Bg.MinI a b l1 (i + 1).toNat (1 : Int)
          rw [hl1, show (i + 1).toNat = i.toNat + 1 by omega]
          refine Bg.min_step hf3 hda hdb (x := n2) (by rw [hv0, ← hn1]; omega) ?_
          left; exact ⟨q3, by omega, rfl⟩
        · show 0 ≤ (i + 1)
          omega
        show (i + 1) ≤ (a.length : Int)
        omega
      show ((a.length : Int) - (i + 1)).toNat < ((a.length : Int) - i).toNat
      omega
    refine nm (out ++ [n2] : List Int) fun l2 hl2 => ?_
    have hl2n := congrArg List.length hl2; try simp only [List.length_append, List.length_cons, List.length_nil, List.length_replicate, List.length_set, List.length_take, List.length_drop, List.length_map, List.length_reverse, List.length_range] at hl2n
    refine V.r [.k (outs.v),.k (iv n2),.nr 2 true 3 [n2] [] (fun _ _ _ _ _ => trivial) (fun _ => #[iv n2]),.ap 3 0 3 8 false true out (fun _ => outs) (kf true (.g 2 0) [n2] (fun G => ⟨atB (G 2).b, 1, 1⟩)) true l2 hl2 (by (try simp only [List.length_append, List.length_cons, List.length_nil, List.length_replicate, List.length_set, List.length_take, List.length_drop, List.length_map, List.length_reverse, List.length_range]); omega) (fun h => by cases h) (.inr fun _ _ => trivial),.v fun G => ((G 3).s).v] fun _ _ G13 kw14 => ?_
    intro S_ s_
    obtain ⟨⟨kl5, -⟩, -⟩ : Lq [n2] (SV.v ⟨atB (G13 2).b, 1, 1⟩) ∧ Lq l2 (((G13 3).s).v) ∧ True := kn kw14 (by kernel_rfl)
    clear kw14
    refine V.g [.k (iv i),.a (i + 1) (by omega) (by omega),.k (iv (i + 1))] fun _ _ G14 => ?_
    intro S_ s_
    refine V.rnd hZ1 (l2, (G13 3).s, 0, i + 1) [0, 1] (by kernel_rfl) ?_ ?_
    · refine ⟨?_, ?_, ?_, ?_, ?_⟩
      · show 0 ≤ (i + 1)
        omega
      · show (i + 1) ≤ (a.length : Int)
        omega
      · show Bg.MinI a b l2 (i + 1).toNat (0 : Int)
        rw [hl2, show (i + 1).toNat = i.toNat + 1 by omega]
        refine Bg.min_step hf3 hda hdb (x := n2) (by rw [hv0, ← hn1]; omega) ?_
        right; exact ⟨q4, rfl, rfl⟩
      · show 0 ≤ (i + 1)
        omega
      show (i + 1) ≤ (a.length : Int)
      omega
    show ((a.length : Int) - (i + 1)).toNat < ((a.length : Int) - i).toNat
    omega
  have hen := Bg.min_end hf3 (by omega) hda hle
  have hdg := hf3.dg
  refine nm (Bg.dig (Bg.nv out) : List Int) fun l3 hl3 => ?_
  have hl3n := congrArg List.length hl3
  refine V.r [.k (outs.v),.ct g0 1 122 false [] [] [(ko true 3 0 out (fun _ => outs)).a] (fun _ G => r4trim_ctv out outs hdg (by omega) l3 hl3),.v fun G => ((G 1).ss 0).v] fun _ _ G15 kw16 => ?_
  intro S_ s_
  obtain ⟨⟨kl6, -⟩, -⟩ : Lq l3 (((G15 1).ss 0).v) ∧ Lq out outs.v ∧ True := kn kw16 (by kernel_rfl)
  clear kw16
  have e0 : l3 = Bg.dig (Bg.nv a - Bg.nv b) := by
    rw [hl3]
    rw [hen]
  subst e0
  exact V.ret [0] [(G15 1).ss 0] [fun _ => {}] [] [2] [] (((G15 1).ss 0).v) (fun _ _ => by kernel_rfl) (fun _ _ => by kernel_rfl) (fun _ _ => trivial)
theorem r4minus_ctv (a : List Int) (as_ : SV) (b : List Int) (bs : SV) (hda : Bg.Dg a) (hdb : Bg.Dg b) (hla : a.length ≤ 68719476736) (hle : Bg.nv b ≤ Bg.nv a) (rv0 : List Int) (erv0 : rv0 = Bg.dig (Bg.nv a - Bg.nv b)) :
    Ct Try.prog 121 #[as_.v, bs.v] [fs true a as_, fs true b bs] [] (fun g => ((g.ss 0)).v) (fun g => [fs true rv0 (g.ss 0)]) (fun g => []) (fun g => []) := by
  subst erv0; exact r4minus_ct a as_ b bs hda hdb hla hle

open Go Go.Proofs
set_option maxRecDepth 10000 in
theorem r4times_ct (a : List Int) (as_ : SV) (b : List Int) (bs : SV) (hda : Bg.Dg a) (hdb : Bg.Dg b) (hla : a.length ≤ 68719476736) (hlb : b.length ≤ 68719476736) :
    Ct Try.prog 133 #[as_.v, bs.v] [fs true a as_, fs true b bs] [] (fun g => ((g.ss 0)).v) (fun g => [fs true (Bg.dig (Bg.nv a * Bg.nv b)) (g.ss 0)]) (fun g => []) (fun g => []) := by
  refine V.fn mo Try.func133 60 1 (by kernel_rfl) fun w H ε k0 => ?_
  obtain ⟨⟨kl1, -⟩, ⟨kl2, -⟩, -⟩ : Lq a as_.v ∧ Lq b bs.v ∧ True := kn k0 (by kernel_rfl)
  clear k0
  refine V.g [.k (.slice none 0 0)] fun _ _ G1 => ?_
  intro S_ s_
  refine nm ((a.length : Int) + (b.length : Int) : Int) fun n1 hn1 => ?_
  refine nm (List.replicate n1.toNat (0 : Int) : List Int) fun l1 hl1 => ?_
  have hl1n := congrArg List.length hl1; try simp only [List.length_append, List.length_cons, List.length_nil, List.length_replicate, List.length_set, List.length_take, List.length_drop, List.length_map, List.length_reverse, List.length_range] at hl1n
  refine V.g [.k (as_.v),.ln (kf false (.f 0) a (fun _ => as_)),.k (bs.v),.ln (kf false (.f 1) b (fun _ => bs)),.ar ((a.length : Int) + (b.length : Int)) n1 hn1 (by omega) (by omega),.mks 5 0 3 8 n1 l1 hl1 (by omega) (by omega) (by omega),.v fun G => ((G 5).s).v] fun _ _ G2 => ?_
  intro S_ s_
  refine V.g [.k (iv 0)] fun _ _ G3 => ?_
  intro S_ s_
  refine V.loop (γ := List Int × SV × Int) (fun ⟨out, outs, i⟩ => ⟨[(0, as_.v), (1, bs.v), (5, outs.v), (6, iv i)], [fs false a as_, fs false b bs], [os true 3 out outs]⟩) (fun ⟨out, outs, i⟩ => (0 ≤ i) ∧ (i ≤ (a.length : Int)) ∧ (Bg.MulO a b out i.toNat) ∧ (0 ≤ i) ∧ (i ≤ (a.length : Int))) (fun ⟨out, outs, i⟩ => ((a.length : Int) - i).toNat) (l1, (G2 5).s, 0) (by kernel_rfl) [0, 1] (by kernel_rfl) ?_ ?_
  · refine ⟨?_, ?_, ?_, ?_, ?_⟩
    · show 0 ≤ (0 : Int)
      omega
    · show (0 : Int) ≤ (a.length : Int)
      omega
    · show Bg.MulO a b l1 (0 : Int).toNat
      rw [hl1, show n1.toNat = a.length + b.length by omega]; exact Bg.mul_start _ _
    · show 0 ≤ (0 : Int)
      omega
    show (0 : Int) ≤ (a.length : Int)
    omega
  rintro ⟨out, outs, i⟩ hF1 kw4 Z1 hZ1
  have hF1 : (0 ≤ i) ∧ (i ≤ (a.length : Int)) ∧ (Bg.MulO a b out i.toNat) ∧ (0 ≤ i) ∧ (i ≤ (a.length : Int)) := hF1
  obtain ⟨hf1, hf2, hf3, hf4, hf5⟩ := hF1
  obtain ⟨-, -, ⟨kl3, -⟩, -⟩ : Lq a as_.v ∧ Lq b bs.v ∧ Lq out outs.v ∧ True := kn kw4 (by kernel_rfl)
  clear kw4
  have hol := hf3.len
  refine V.g [.k (iv i),.k (as_.v),.ln (kf false (.f 0) a (fun _ => as_)),.k (bv (decide (i < (a.length : Int))))] fun _ _ G4 => ?_
  intro S_ s_
  refine V.cond (b := decide (i < (a.length : Int))) iDT iDF (by kernel_rfl) (fun q1 => ?_) (fun q2 => ?_)
  · refine V.g [.k (iv 0)] fun _ _ G5 => ?_
    intro S_ s_
    refine V.g [.k (iv 0)] fun _ _ G6 => ?_
    intro S_ s_
    refine V.loop (γ := List Int × SV × Int × Int) (fun ⟨out_1, out_1s, carry, k⟩ => ⟨[(0, as_.v), (1, bs.v), (5, out_1s.v), (6, iv i), (7, iv carry), (8, iv k)], [fs false a as_, fs false b bs], [os true 3 out_1 out_1s]⟩) (fun ⟨out_1, out_1s, carry, k⟩ => (0 ≤ k) ∧ ((k ≤ (b.length : Int) ∧ Bg.MulI a b out_1 i.toNat k.toNat carry) ∨ (k = (b.length : Int) + 1 ∧ carry = 0 ∧ Bg.MulO a b out_1 (i.toNat + 1)))) (fun ⟨out_1, out_1s, carry, k⟩ => ((b.length : Int) + 2 - k).toNat) (out, outs, 0, 0) (by kernel_rfl) [0, 1] (by kernel_rfl) ?_ ?_
    · refine ⟨?_, ?_⟩
      · show 0 ≤ (0 : Int)
        omega
      show ((0 : Int) ≤ (b.length : Int) ∧ Bg.MulI a b out i.toNat (0 : Int).toNat (0 : Int)) ∨ ((0 : Int) = (b.length : Int) + 1 ∧ (0 : Int) = 0 ∧ Bg.MulO a b out (i.toNat + 1))
      left; exact ⟨by omega, Bg.MulO.inner hf3⟩
    rintro ⟨out_1, out_1s, carry, k⟩ hF2 kw8 Z2 hZ2
    have hF2 : (0 ≤ k) ∧ ((k ≤ (b.length : Int) ∧ Bg.MulI a b out_1 i.toNat k.toNat carry) ∨ (k = (b.length : Int) + 1 ∧ carry = 0 ∧ Bg.MulO a b out_1 (i.toNat + 1))) := hF2
    obtain ⟨hf6, hf7⟩ := hF2
    obtain ⟨-, -, ⟨kl4, -⟩, -⟩ : Lq a as_.v ∧ Lq b bs.v ∧ Lq out_1 out_1s.v ∧ True := kn kw8 (by kernel_rfl)
    clear kw8
    refine nm ((decide (k < (b.length : Int))) || (decide (0 < carry)) : Bool) fun p1 hp1 => ?_
    refine V.g [.k (iv k),.k (bs.v),.ln (kf false (.f 1) b (fun _ => bs)),.k (bv (decide (k < (b.length : Int)))),.k (bv (decide (k < (b.length : Int)))),.k (iv carry),.k (bv (decide (0 < carry))),.orn g0 false (decide (k < (b.length : Int))) (decide (0 < carry)) p1 hp1] fun _ _ G7 => ?_
    intro S_ s_
    refine V.cond (b := p1) (iN hp1 (iOT iDT iDT)) (iN hp1 (iOF iDF iDF)) (by kernel_rfl) (fun q3 => ?_) (fun q4 => ?_)
    · refine nm (out_1.getD (i + k).toNat default : Int) fun v1 hv1 => ?_
      refine nm (a.getD i.toNat default : Int) fun v2 hv2 => ?_
      refine nm (b.getD k.toNat 0 : Int) fun n2 hn2 => ?_
      refine nm (v2 * n2 : Int) fun n3 hn3 => ?_
      refine nm (v1 + n3 + carry : Int) fun n4 hn4 => ?_
      obtain ⟨hk1, hMI⟩ : k ≤ (b.length : Int) ∧ Bg.MulI a b out_1 i.toNat k.toNat carry := by rcases hf7 with h | h; exact h; omega
      have ex : a.getD i.toNat 0 = v2 := hv2.symm
      have ey : b.getD k.toNat 0 = n2 := hn2.symm
      have eo : out_1.getD (i + k).toNat 0 = v1 := hv1.symm
      have bx := hda.get' i.toNat; have by_ := hdb.get' k.toNat; have bo := hMI.dg.get' (i + k).toNat; have bc := hMI.c0; have hol2 := hMI.len
      rw [ex] at bx; rw [ey] at by_; rw [eo] at bo
      have bp := Bg.dmul bx by_
      refine V.g [.k (out_1s.v),.k (iv i),.k (iv k),.a (i + k) (by omega) (by omega),.ix g0 (ko true 3 0 out_1 (fun _ => out_1s)) (i + k) (fun _ => ⟨by omega, by omega⟩),.le g0 (ko true 3 0 out_1 (fun _ => out_1s)) (i + k) none false v1 hv1 (fun _ => ⟨by omega, by omega⟩) false (fun _ => [iv v1]),.k (as_.v),.k (iv i),.ix g0 (kf false (.f 0) a (fun _ => as_)) i (fun _ => ⟨by omega, by omega⟩),.le g0 (kf false (.f 0) a (fun _ => as_)) i none false v2 hv2 (fun _ => ⟨by omega, by omega⟩) false (fun _ => [iv v2]),.k (bs.v),.k (iv k),.cp g0 12 134 [(kf false (.f 1) b (fun _ => bs)).a] (fun _ G => r4digit_ctv b bs k (by omega) n2 hn2),.ar (v2 * n2) n3 hn3 (by omega) (by omega),.a (v1 + n3) (by omega) (by omega),.k (iv carry),.ar (v1 + n3 + carry) n4 hn4 (by omega) (by omega),.k (iv n4)] fun _ _ G8 => ?_
      intro S_ s_
      have hxx : n4 = out_1.getD (i.toNat + k.toNat) 0 + a.getD i.toNat 0 * b.getD k.toNat 0 + carry := by rw [ex, ey, show i.toNat + k.toNat = (i + k).toNat by omega, eo]; omega
      refine nm (n4 % 1048576 : Int) fun n5 hn5 => ?_
      refine nm (out_1.set (i + k).toNat n5 : List Int) fun l2 hl2 => ?_
      have hl2n := congrArg List.length hl2; try simp only [List.length_append, List.length_cons, List.length_nil, List.length_replicate, List.length_set, List.length_take, List.length_drop, List.length_map, List.length_reverse, List.length_range] at hl2n
      refine V.g [.k (out_1s.v),.k (iv i),.k (iv k),.a (i + k) (by omega) (by omega),.k (iv n4),.rem g0 n4 1048576 n5 hn5 (fun _ => by omega),.ix g0 (ko true 3 0 out_1 (fun _ => out_1s)) (i + k) (fun _ => ⟨by omega, by omega⟩),.se g0 7 0 3 true out_1 (fun _ => out_1s) (i + k) none v1 n5 hv1 true l2 hl2 (fun _ => ⟨by omega, by omega⟩) (fun _ => rfl) [] (fun _ _ _ _ => trivial)] fun _ _ G9 => ?_
      intro S_ s_
      refine nm (n4 / 1048576 : Int) fun n6 hn6 => ?_
      refine V.g [.k (iv n4),.quo g0 n4 1048576 n6 hn6 (fun _ => ⟨by omega, by omega⟩) (fun _ => by omega),.k (iv n6)] fun _ _ G10 => ?_
      intro S_ s_
      refine V.g [.k (iv k),.a (k + 1) (by omega) (by omega),.k (iv (k + 1))] fun _ _ G11 => ?_
      intro S_ s_
      refine V.rnd hZ2 (l2, out_1s, n6, k + 1) [0, 1] (by kernel_rfl) ?_ ?_
      · refine ⟨?_, ?_⟩
        · show 0 ≤ (k + 1)
          omega
        show ((k + 1) ≤ (b.length : Int) ∧ Bg.MulI a b l2 i.toNat (k + 1).toNat n6) ∨ ((k + 1) = (b.length : Int) + 1 ∧ n6 = 0 ∧ Bg.MulO a b l2 (i.toNat + 1))
        rw [hl2, hn5, hn6, show (i + k).toNat = i.toNat + k.toNat by omega]
        by_cases hkl : k < (b.length : Int)
        · left; refine ⟨by omega, ?_⟩
          rw [show (k + 1).toNat = k.toNat + 1 by omega]; exact (Bg.mul_step hMI hda hdb (by omega) (by omega) hxx).2
        right; have hk : k = (b.length : Int) := by omega
        have hMI2 := hMI; rw [show k.toNat = b.length by omega] at hMI2 hxx
        have h3 := Bg.mul_end (x := n4) hMI2 (by omega) (by rw [hxx, Bg.getD_out (l := b) (i := b.length) (by omega)]; omega)
        have h4 := h3.dg.get' (i.toNat + b.length); rw [Bg.getD_set (by omega), if_pos rfl] at h4
        rw [show k.toNat = b.length by omega, show n4 % 1048576 = n4 by omega]; exact ⟨by omega, by omega, h3⟩
      show ((b.length : Int) + 2 - (k + 1)).toNat < ((b.length : Int) + 2 - k).toNat
      omega
    refine V.g [.k (iv i),.a (i + 1) (by omega) (by omega),.k (iv (i + 1))] fun _ _ G12 => ?_
    intro S_ s_
    refine V.rnd hZ1 (out_1, out_1s, i + 1) [0, 1] (by kernel_rfl) ?_ ?_
    · refine ⟨?_, ?_, ?_, ?_, ?_⟩
      · show 0 ≤ (i + 1)
        omega
      · show (i + 1) ≤ (a.length : Int)
        omega
      · show Bg.MulO a b out_1 (i + 1).toNat
        rw [show (i + 1).toNat = i.toNat + 1 by omega]; rcases hf7 with ⟨h1, h2⟩ | ⟨h1, h2, h3⟩
        · have hc := h2.c0; rw [show k.toNat = b.length by omega, show carry = 0 by omega] at h2; exact Bg.mul_end0 h2 (by omega)
        exact h3
      · show 0 ≤ (i + 1)
        omega
      show (i + 1) ≤ (a.length : Int)
      omega
    show ((a.length : Int) - (i + 1)).toNat < ((a.length : Int) - i).toNat
    omega
  have hen := hf3
  rw [show i.toNat = a.length by omega] at hen
  have hsd := hen.dg; have hse := hen.sum; have hlen := hen.len
  rw [List.take_length] at hse
  refine nm (Bg.dig (Bg.nv out) : List Int) fun l3 hl3 => ?_
  have hl3n := congrArg List.length hl3
  refine V.r [.k (outs.v),.ct g0 1 122 false [] [] [(ko true 3 0 out (fun _ => outs)).a] (fun _ G => r4trim_ctv out outs hsd (by omega) l3 hl3),.v fun G => ((G 1).ss 0).v] fun _ _ G13 kw15 => ?_
  intro S_ s_
  obtain ⟨⟨kl5, -⟩, -⟩ : Lq l3 (((G13 1).ss 0).v) ∧ Lq out outs.v ∧ True := kn kw15 (by kernel_rfl)
  clear kw15
  have e0 : l3 = Bg.dig (Bg.nv a * Bg.nv b) := by
    rw [hl3]
    rw [hse]
  subst e0
  exact V.ret [0] [(G13 1).ss 0] [fun _ => {}] [] [2] [] (((G13 1).ss 0).v) (fun _ _ => by kernel_rfl) (fun _ _ => by kernel_rfl) (fun _ _ => trivial)
theorem r4times_ctv (a : List Int) (as_ : SV) (b : List Int) (bs : SV) (hda : Bg.Dg a) (hdb : Bg.Dg b) (hla : a.length ≤ 68719476736) (hlb : b.length ≤ 68719476736) (rv0 : List Int) (erv0 : rv0 = Bg.dig (Bg.nv a * Bg.nv b)) :
    Ct Try.prog 133 #[as_.v, bs.v] [fs true a as_, fs true b bs] [] (fun g => ((g.ss 0)).v) (fun g => [fs true rv0 (g.ss 0)]) (fun g => []) (fun g => []) := by
  subst erv0; exact r4times_ct a as_ b bs hda hdb hla hlb
set_option maxRecDepth 10000 in
theorem r4over_ct (a : List Int) (as_ : SV) (b : List Int) (bs : SV) (hda : Bg.Dg a) (hdb : Bg.Dg b) (hb0 : 0 < Bg.nv b) (hla : a.length ≤ 68719476736) (hlb : b.length ≤ 34359738368) :
    Ct Try.prog 119 #[as_.v, bs.v] [fs true a as_, fs true b bs] [] (fun g => .tuple #[((g.ss 0)).v, ((g.ss 1)).v]) (fun g => [fs true (Bg.dig (Bg.nv a / Bg.nv b)) (g.ss 0), fs true (Bg.dig (Bg.nv a % Bg.nv b)) (g.ss 1)]) (fun g => []) (fun g => []) := by
  refine V.fn mo Try.func119 60 2 (by kernel_rfl) fun w H ε k0 => ?_
  obtain ⟨⟨kl1, -⟩, ⟨kl2, -⟩, -⟩ : Lq a as_.v ∧ Lq b bs.v ∧ True := kn k0 (by kernel_rfl)
  clear k0
  refine V.g [.k (.slice none 0 0),.k (.slice none 0 0)] fun _ _ G1 => ?_
  intro S_ s_
  refine nm (List.replicate (a.length : Int).toNat (0 : Int) : List Int) fun l1 hl1 => ?_
  have hl1n := congrArg List.length hl1; try simp only [List.length_append, List.length_cons, List.length_nil, List.length_replicate, List.length_set, List.length_take, List.length_drop, List.length_map, List.length_reverse, List.length_range] at hl1n
  refine V.g [.k (as_.v),.ln (kf false (.f 0) a (fun _ => as_)),.mks 2 0 3 8 (a.length : Int) l1 hl1 (by omega) (by omega) (by omega),.v fun G => ((G 2).s).v] fun _ _ G2 => ?_
  intro S_ s_
  refine V.g [.k (.slice none 0 0)] fun _ _ G3 => ?_
  intro S_ s_
  refine nm ((a.length : Int) - 1 : Int) fun n1 hn1 => ?_
  refine V.g [.k (as_.v),.ln (kf false (.f 0) a (fun _ => as_)),.ar ((a.length : Int) - 1) n1 hn1 (by omega) (by omega),.k (iv n1)] fun _ _ G4 => ?_
  intro S_ s_
  refine V.nilF (α := Int) ?_
  refine V.loop (γ := List Int × SV × List Int × SV × Int) (fun ⟨q, qs, r, rs, i⟩ => ⟨[(0, as_.v), (1, bs.v), (6, qs.v), (7, rs.v), (8, iv i)], [fs false a as_, fs false b bs, fs true r rs], [os true 3 q qs, .no]⟩) (fun ⟨q, qs, r, rs, i⟩ => (-1 ≤ i) ∧ (i < (a.length : Int)) ∧ (Bg.OveI a b q r (i + 1).toNat)) (fun ⟨q, qs, r, rs, i⟩ => (i + 1).toNat) (l1, (G2 2).s, ([] : List Int), {}, n1) (by kernel_rfl) [0, 1, 2] (by kernel_rfl) ?_ ?_
  · refine ⟨?_, ?_, ?_⟩
    · show -1 ≤ n1
      omega
    · show n1 < (a.length : Int)
      omega
    show Bg.OveI a b l1 ([] : List Int) (n1 + 1).toNat
    rw [show (n1 + 1).toNat = a.length by omega, hl1, Int.toNat_natCast]; exact Bg.ove_start
  rintro ⟨q, qs, r, rs, i⟩ hF1 kw5 Z1 hZ1
  have hF1 : (-1 ≤ i) ∧ (i < (a.length : Int)) ∧ (Bg.OveI a b q r (i + 1).toNat) := hF1
  obtain ⟨hf1, hf2, hf3⟩ := hF1
  obtain ⟨-, -, ⟨kl3, -⟩, ⟨kl4, -⟩, -⟩ : Lq a as_.v ∧ Lq b bs.v ∧ Lq r rs.v ∧ Lq q qs.v ∧ True := kn kw5 (by kernel_rfl)
  clear kw5
  have hql := hf3.len
  refine V.g [.k (iv i),.k (bv (decide (0 ≤ i)))] fun _ _ G5 => ?_
  intro S_ s_
  refine V.cond (b := decide (0 ≤ i)) iDT iDF (by kernel_rfl) (fun q1 => ?_) (fun q2 => ?_)
  · refine nm (a.getD i.toNat default : Int) fun v1 hv1 => ?_
    refine nm ([v1] ++ r : List Int) fun l2 hl2 => ?_
    have hl2n := congrArg List.length hl2; try simp only [List.length_append, List.length_cons, List.length_nil, List.length_replicate, List.length_set, List.length_take, List.length_drop, List.length_map, List.length_reverse, List.length_range] at hl2n
    refine nm (Bg.dig (Bg.nv l2) : List Int) fun l3 hl3 => ?_
    have hl3n := congrArg List.length hl3
    have hOv := hf3
    rw [show (i + 1).toNat = i.toNat + 1 by omega] at hOv
    obtain ⟨r1, r2, r3⟩ := Bg.ove_R hOv hda hb0 hv1
    have hrl := Bg.ove_len hOv hdb hb0
    have hl2e : l2 = [v1] ++ r := by rw [hl2]
    rw [← hl2e] at r1 r2 r3
    have hl2n := congrArg List.length hl2e; simp only [List.length_append, List.length_cons, List.length_nil] at hl2n
    have hl3v : Bg.nv l3 = Bg.nv l2 := by rw [hl3, Bg.nv_dig]
    have hl3d : Bg.Dg l3 := by rw [hl3]; exact Bg.dig_Dg _
    have hl3l : l3.length ≤ l2.length := by rw [hl3]; exact Bg.dig_le r2
    refine V.r [.k (as_.v),.k (iv i),.ix g0 (kf false (.f 0) a (fun _ => as_)) i (fun _ => ⟨by omega, by omega⟩),.le g0 (kf false (.f 0) a (fun _ => as_)) i none false v1 hv1 (fun _ => ⟨by omega, by omega⟩) false (fun _ => [iv v1]),.nl 4 1 true 3 [v1] [] (fun _ _ _ _ _ => trivial) (fun _ => #[iv v1]),.k (rs.v),.ap 6 1 3 8 false true [v1] (fun G => ⟨atB (G 4).b, 1, 1⟩) (kf true (.f 2) r (fun _ => rs)) true l2 hl2 (by (try simp only [List.length_append, List.length_cons, List.length_nil, List.length_replicate, List.length_set, List.length_take, List.length_drop, List.length_map, List.length_reverse, List.length_range]); omega) (fun h => by cases h) (.inr fun _ _ => trivial),.ct g0 7 122 false [] [] [(ko true 3 1 l2 (fun G => (G 6).s)).a] (fun _ G => r4trim_ctv l2 ((G 6).s) r2 (by omega) l3 hl3),.v fun G => ((G 7).ss 0).v] fun _ _ G6 kw7 => ?_
    intro S_ s_
    obtain ⟨⟨kl5, -⟩, -⟩ : Lq l3 (((G6 7).ss 0).v) ∧ Lq q qs.v ∧ Lq l2 (((G6 6).s).v) ∧ True := kn kw7 (by kernel_rfl)
    clear kw7
    refine V.g [.k (iv 0)] fun _ _ G7 => ?_
    intro S_ s_
    refine V.g [.k (iv 1048576)] fun _ _ G8 => ?_
    intro S_ s_
    refine V.loop (γ := Int × Int) (fun ⟨lo, hi⟩ => ⟨[(0, as_.v), (1, bs.v), (6, qs.v), (7, ((G6 7).ss 0).v), (8, iv i), (9, iv lo), (10, iv hi)], [fs false a as_, fs false b bs, fs true l3 ((G6 7).ss 0)], [os true 3 q qs, os true 3 l2 ((G6 6).s)]⟩) (fun ⟨lo, hi⟩ => (0 ≤ lo) ∧ (lo < hi) ∧ (hi ≤ 1048576) ∧ (lo.toNat * Bg.nv b ≤ Bg.nv l2) ∧ (Bg.nv l2 < hi.toNat * Bg.nv b)) (fun ⟨lo, hi⟩ => (hi - lo).toNat) (0, 1048576) (by kernel_rfl) [0, 1, 3] (by kernel_rfl) ?_ ?_
    · refine ⟨?_, ?_, ?_, ?_, ?_⟩
      · show 0 ≤ (0 : Int)
        omega
      · show (0 : Int) < (1048576 : Int)
        omega
      · show (1048576 : Int) ≤ 1048576
        omega
      · show (0 : Int).toNat * Bg.nv b ≤ Bg.nv l2
        show 0 * _ ≤ _; rw [Nat.zero_mul]; exact Nat.zero_le _
      show Bg.nv l2 < (1048576 : Int).toNat * Bg.nv b
      exact r1
    rintro ⟨lo, hi⟩ hF2 kw10 Z2 hZ2
    have hF2 : (0 ≤ lo) ∧ (lo < hi) ∧ (hi ≤ 1048576) ∧ (lo.toNat * Bg.nv b ≤ Bg.nv l2) ∧ (Bg.nv l2 < hi.toNat * Bg.nv b) := hF2
    obtain ⟨hf4, hf5, hf6, hf7, hf8⟩ := hF2
    clear kw10
    refine V.g [.k (iv hi),.k (iv lo),.a (hi - lo) (by omega) (by omega),.k (bv (decide (1 < hi - lo)))] fun _ _ G9 => ?_
    intro S_ s_
    refine V.cond (b := decide (1 < hi - lo)) iDT iDF (by kernel_rfl) (fun q3 => ?_) (fun q4 => ?_)
    · refine nm ((lo + hi) / 2 : Int) fun n2 hn2 => ?_
      refine V.g [.k (iv lo),.k (iv hi),.a (lo + hi) (by omega) (by omega),.quo g0 (lo + hi) 2 n2 hn2 (fun _ => ⟨by omega, by omega⟩) (fun _ => by omega),.k (iv n2)] fun _ _ G10 => ?_
      intro S_ s_
      refine nm (Bg.dig (Bg.nv b * Bg.nv [n2]) : List Int) fun l4 hl4 => ?_
      have hl4n := congrArg List.length hl4
      have hdm : Bg.Dg [n2] := Bg.Dg.one (by omega)
      have hl4v : Bg.nv l4 = Bg.nv b * n2.toNat := by rw [hl4, Bg.nv_dig, Bg.nv_one]
      refine V.r [.k (((G6 7).ss 0).v),.k (bs.v),.k (iv n2),.nr 3 true 3 [n2] [] (fun _ _ _ _ _ => trivial) (fun _ => #[iv n2]),.ct g0 4 133 false [] [] [(kf false (.f 1) b (fun _ => bs)).a, (kf true (.g 3 0) [n2] (fun G => ⟨atB (G 3).b, 1, 1⟩)).a] (fun _ G => r4times_ctv b bs [n2] ⟨atB (G 3).b, 1, 1⟩ hdb hdm (by omega) (by simp) l4 hl4),.cp g0 5 132 [(kf true (.f 2) l3 (fun _ => (G6 7).ss 0)).a, (kf true (.g 4 0) l4 (fun G => (G 4).ss 0)).a] (fun _ G => r4less_ct l3 ((G6 7).ss 0) l4 ((G 4).ss 0) hl3d (by first | assumption | (subst_vars; exact Bg.dig_Dg _)))] fun _ _ G11 kw13 => ?_
      intro S_ s_
      obtain ⟨⟨kl6, -⟩, ⟨kl7, -⟩, -⟩ : Lq [n2] (SV.v ⟨atB (G11 3).b, 1, 1⟩) ∧ Lq l4 (((G11 4).ss 0).v) ∧ Lq q qs.v ∧ Lq l2 (((G6 6).s).v) ∧ True := kn kw13 (by kernel_rfl)
      clear kw13
      refine V.cond (b := decide (Bg.nv l3 < Bg.nv l4)) iDT iDF (by kernel_rfl) (fun q5 => ?_) (fun q6 => ?_)
      · refine V.g [.k (iv n2),.k (iv n2)] fun _ _ G12 => ?_
        intro S_ s_
        refine V.rnd hZ2 (lo, n2) [0, 1, 2] (by kernel_rfl) ?_ ?_
        · refine ⟨?_, ?_, ?_, ?_, ?_⟩
          · show 0 ≤ lo
            omega
          · show lo < n2
            omega
          · show n2 ≤ 1048576
            omega
          · show lo.toNat * Bg.nv b ≤ Bg.nv l2
            omega
          show Bg.nv l2 < n2.toNat * Bg.nv b
          have hqq := q5; rw [hl3v, hl4v, Nat.mul_comm] at hqq; exact hqq
        show (n2 - lo).toNat < (hi - lo).toNat
        rw [hn2]
        omega
      refine V.g [.k (iv n2),.k (iv n2)] fun _ _ G13 => ?_
      intro S_ s_
      refine V.rnd hZ2 (n2, hi) [0, 1, 2] (by kernel_rfl) ?_ ?_
      · refine ⟨?_, ?_, ?_, ?_, ?_⟩
        · show 0 ≤ n2
          omega
        · show n2 < hi
          omega
        · show hi ≤ 1048576
          omega
        · show n2.toNat * Bg.nv b ≤ Bg.nv l2
          have hqq := q6; rw [hl3v, hl4v, Nat.mul_comm] at hqq; omega
        show Bg.nv l2 < hi.toNat * Bg.nv b
        omega
      show (hi - n2).toNat < (hi - lo).toNat
      rw [hn2]
      omega
    refine nm (q.getD i.toNat default : Int) fun v2 hv2 => ?_
    refine nm (q.set i.toNat lo : List Int) fun l5 hl5 => ?_
    have hl5n := congrArg List.length hl5; try simp only [List.length_append, List.length_cons, List.length_nil, List.length_replicate, List.length_set, List.length_take, List.length_drop, List.length_map, List.length_reverse, List.length_range] at hl5n
    refine V.g [.k (qs.v),.k (iv i),.k (iv lo),.ix g0 (ko true 3 0 q (fun _ => qs)) i (fun _ => ⟨by omega, by omega⟩),.se g0 4 0 3 true q (fun _ => qs) i none v2 lo hv2 true l5 hl5 (fun _ => ⟨by omega, by omega⟩) (fun _ => rfl) [] (fun _ _ _ _ => trivial)] fun _ _ G14 => ?_
    intro S_ s_
    refine nm (Bg.dig (Bg.nv [lo]) : List Int) fun l6 hl6 => ?_
    have hl6n := congrArg List.length hl6
    refine nm (Bg.dig (Bg.nv b * Bg.nv l6) : List Int) fun l7 hl7 => ?_
    have hl7n := congrArg List.length hl7
    refine nm (Bg.dig (Bg.nv l3 - Bg.nv l7) : List Int) fun l8 hl8 => ?_
    have hl8n := congrArg List.length hl8
    have hdlo : Bg.Dg [lo] := Bg.Dg.one (by omega)
    have hl5d : Bg.Dg l6 := by rw [hl6]; exact Bg.dig_Dg _
    have hl5l : l6.length ≤ 1 := by rw [hl6]; exact Bg.dig_le hdlo
    have hl6v : Bg.nv l7 = Bg.nv b * lo.toNat := by rw [hl7, Bg.nv_dig, hl6, Bg.nv_dig, Bg.nv_one]
    have hl6d : Bg.Dg l7 := by rw [hl7]; exact Bg.dig_Dg _
    have hlo1 : lo.toNat * Bg.nv b ≤ Bg.nv l2 := hf7
    have hlo2 : Bg.nv l2 < (lo.toNat + 1) * Bg.nv b := by have h := hf8; rw [show hi.toNat = lo.toNat + 1 by omega] at h; exact h
    have hle6 : Bg.nv l7 ≤ Bg.nv l3 := by rw [hl6v, hl3v, Nat.mul_comm]; exact hlo1
    refine V.r [.k (((G6 7).ss 0).v),.k (bs.v),.k (iv lo),.nr 3 true 3 [lo] [] (fun _ _ _ _ _ => trivial) (fun _ => #[iv lo]),.ct g0 4 122 false [] [] [(kf true (.g 3 0) [lo] (fun G => ⟨atB (G 3).b, 1, 1⟩)).a] (fun _ G => r4trim_ctv [lo] ⟨atB (G 3).b, 1, 1⟩ hdlo (by simp) l6 hl6),.ct g0 5 133 false [] [] [(kf false (.f 1) b (fun _ => bs)).a, (kf true (.g 4 0) l6 (fun G => (G 4).ss 0)).a] (fun _ G => r4times_ctv b bs l6 ((G 4).ss 0) hdb hl5d (by omega) (by omega) l7 hl7),.ct g0 6 121 false [] [] [(kf true (.f 2) l3 (fun _ => (G6 7).ss 0)).a, (kf true (.g 5 0) l7 (fun G => (G 5).ss 0)).a] (fun _ G => r4minus_ctv l3 ((G6 7).ss 0) l7 ((G 5).ss 0) hl3d hl6d (by omega) hle6 l8 hl8),.v fun G => ((G 6).ss 0).v] fun _ _ G15 kw17 => ?_
    intro S_ s_
    obtain ⟨⟨kl8, -⟩, ⟨kl9, -⟩, ⟨kl10, -⟩, ⟨kl11, -⟩, -⟩ : Lq [lo] (SV.v ⟨atB (G15 3).b, 1, 1⟩) ∧ Lq l6 (((G15 4).ss 0).v) ∧ Lq l7 (((G15 5).ss 0).v) ∧ Lq l8 (((G15 6).ss 0).v) ∧ Lq l5 qs.v ∧ Lq l2 (((G6 6).s).v) ∧ True := kn kw17 (by kernel_rfl)
    clear kw17
    refine V.g [.k (iv i),.a (i - 1) (by omega) (by omega),.k (iv (i - 1))] fun _ _ G16 => ?_
    intro S_ s_
    refine V.rnd hZ1 (l5, qs, l8, (G15 6).ss 0, i - 1) [0, 1, 6] (by kernel_rfl) ?_ ?_
    · refine ⟨?_, ?_, ?_⟩
      · show -1 ≤ (i - 1)
        omega
      · show (i - 1) < (a.length : Int)
        omega
      show Bg.OveI a b l5 l8 ((i - 1) + 1).toNat
      rw [show (i - 1 + 1).toNat = i.toNat by omega, hl5, hl8, hl3v, hl6v, Nat.mul_comm (Bg.nv b), hl2e]
      rw [hl2e] at hlo1 hlo2; exact Bg.ove_step hOv hda hb0 (by omega) hv1 (by omega) (by omega) hlo1 hlo2
    show ((i - 1) + 1).toNat < (i + 1).toNat
    omega
  have hen := hf3
  rw [show (i + 1).toNat = 0 by omega] at hen
  obtain ⟨hE1, hE2⟩ := Bg.ove_end hen
  have hqd := hen.dg; have hql := hen.len
  refine nm (Bg.dig (Bg.nv q) : List Int) fun l9 hl9 => ?_
  have hl9n := congrArg List.length hl9
  refine V.r [.k (qs.v),.ct g0 1 122 false [] [] [(ko true 3 0 q (fun _ => qs)).a] (fun _ G => r4trim_ctv q qs hqd (by omega) l9 hl9),.k (rs.v),.v fun G => ((G 1).ss 0).v,.k (rs.v)] fun _ _ G17 kw19 => ?_
  intro S_ s_
  obtain ⟨⟨kl12, -⟩, -⟩ : Lq l9 (((G17 1).ss 0).v) ∧ Lq q qs.v ∧ True := kn kw19 (by kernel_rfl)
  clear kw19
  have e0 : l9 = Bg.dig (Bg.nv a / Bg.nv b) := by
    rw [hl9]
    rw [hE1]
  subst e0
  have e1 : r = Bg.dig (Bg.nv a % Bg.nv b) := hE2
  subst e1
  exact V.ret [0, 0] [(G17 1).ss 0, rs] [fun _ => {}, fun _ => {}] [] [3, 2] [] (.tuple #[((G17 1).ss 0).v, rs.v]) (fun _ _ => by kernel_rfl) (fun _ _ => by kernel_rfl) (fun _ _ => trivial)
theorem r4over_ctv (a : List Int) (as_ : SV) (b : List Int) (bs : SV) (hda : Bg.Dg a) (hdb : Bg.Dg b) (hb0 : 0 < Bg.nv b) (hla : a.length ≤ 68719476736) (hlb : b.length ≤ 34359738368) (rv0 : List Int) (erv0 : rv0 = Bg.dig (Bg.nv a / Bg.nv b)) (rv1 : List Int) (erv1 : rv1 = Bg.dig (Bg.nv a % Bg.nv b)) :
    Ct Try.prog 119 #[as_.v, bs.v] [fs true a as_, fs true b bs] [] (fun g => .tuple #[((g.ss 0)).v, ((g.ss 1)).v]) (fun g => [fs true rv0 (g.ss 0), fs true rv1 (g.ss 1)]) (fun g => []) (fun g => []) := by
  subst erv0 erv1; exact r4over_ct a as_ b bs hda hdb hb0 hla hlb
end Kb
