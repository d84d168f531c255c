/- Texts for the claim, put together (part 5 of 7): contracts of the functions that the law reaches. -/
import Derived.Test.YtjcgaaalpcofhaaZywd
import Derived.Test.YtjcgaaalpcofhaaZywc
set_option linter.unusedVariables false
set_option linter.unusedSectionVars false
set_option linter.unusedSimpArgs false
namespace Kb
open Go Go.Proofs
set_option maxRecDepth 10000 in
theorem one_ct (a_Sign : Int) (a_Digits : List Int) (a_Digitss : SV) :
    Cp Try.prog 53 #[ag (DBig.mk a_Sign ⟨a_Digits, a_Digitss⟩)] [fs true a_Digits a_Digitss] (bv (decide (Bg.intV a_Sign a_Digits = 1))) := by
  refine V.fn mo Try.func53 15 1 (by kernel_rfl) fun w H ε k0 => ?_
  obtain ⟨⟨kl1, -⟩, -⟩ : Lq a_Digits a_Digitss.v ∧ True := kn k0 (by kernel_rfl)
  clear k0
  refine V.go [.nb 0 0 (fun b => pp b 0) 31 (fun _ => ca (DBig.mk a_Sign ⟨a_Digits, a_Digitss⟩)),
    .kb false] (fun _ _ => by kernel_rfl) fun _ _ G1 => ?_
  intro S1 t1
  refine nm (Bg.intV a_Sign a_Digits : Int) fun n1 hn1 => ?_
  refine V.go [.ld 0 0 true (fun _ => Dat.cells (DBig.mk a_Sign ⟨a_Digits, a_Digitss⟩)),
    .cp g0 1 44 [(kf false (.f 0) a_Digits (fun _ => a_Digitss)).a] (fun _ G => int_ctv a_Sign a_Digits a_Digitss n1 hn1),
    .k (.tuple #[iv n1, bv (decide (Bg.inI a_Sign a_Digits))]),
    .k (iv n1),
    .k (bv (decide (Bg.inI a_Sign a_Digits))),
    .k (iv n1),
    .k (bv (decide (Bg.inI a_Sign a_Digits)))] (fun _ _ => by kernel_rfl) fun _ _ G2 => ?_
  intro S2 t2
  refine nm ((decide (Bg.inI a_Sign a_Digits)) && (decide (n1 = 1)) : Bool) fun p1 hp1 => ?_
  refine V.go [.k (bv (decide (Bg.inI a_Sign a_Digits))),
    .k (bv (decide (Bg.inI a_Sign a_Digits))),
    .k (iv n1),
    .k (bv (decide (n1 = 1))),
    .andn g0 false (decide (Bg.inI a_Sign a_Digits)) (decide (n1 = 1)) p1 hp1,
    .k (bv p1)] (fun _ _ => by kernel_rfl) fun _ _ G3 => ?_
  intro S3 t3
  have e0 : p1 = decide (Bg.intV a_Sign a_Digits = 1) := by
    refine Bool.eq_iff_iff.2 (Iff.trans (iN hp1 (iAT iDT iDT)) (Iff.trans ?_ decide_eq_true_iff.symm))
    subst_vars
    exact ⟨fun h => h.2, fun h => ⟨Classical.byContradiction fun k => by rw [Bg.intV_n k] at h; omega, h⟩⟩
  exact V.ret [0] [] [] [] [] [] (bv p1) (fun _ _ => by kernel_rfl) (fun _ _ => (Eq.trans (by kernel_rfl) (cong1 (fun (x0 : Bool) => (bv x0 : Value)) e0)).trans (by kernel_rfl)) (fun _ _ => trivial)

set_option maxRecDepth 10000 in
theorem right_ct (f_P_Sign : Int) (f_P_Digits : List Int) (f_P_Digitss : SV) (f_Q_Sign : Int) (f_Q_Digits : List Int) (f_Q_Digitss : SV) (hfP : f_P_Digits.length ≤ 274877906944) (hfQ : f_Q_Digits.length ≤ 274877906944) :
    Cp Try.prog 19 #[ag (DFrac.mk (DBig.mk f_P_Sign ⟨f_P_Digits, f_P_Digitss⟩) (DBig.mk f_Q_Sign ⟨f_Q_Digits, f_Q_Digitss⟩))] [fs true f_P_Digits f_P_Digitss, fs true f_Q_Digits f_Q_Digitss] (bv (decide (Fr.FrB f_P_Sign f_P_Digits f_Q_Sign f_Q_Digits))) := by
  refine V.fn mo Try.func19 35 2 (by kernel_rfl) fun w H ε k0 => ?_
  obtain ⟨⟨kl1, -⟩, ⟨kl2, -⟩, -⟩ : Lq f_P_Digits f_P_Digitss.v ∧ Lq f_Q_Digits f_Q_Digitss.v ∧ True := kn k0 (by kernel_rfl)
  clear k0
  refine V.go [.nb 0 0 (fun b => pp b 0) 33 (fun _ => ca (DFrac.mk (DBig.mk f_P_Sign ⟨f_P_Digits, f_P_Digitss⟩) (DBig.mk f_Q_Sign ⟨f_Q_Digits, f_Q_Digitss⟩))),
    .kb false] (fun _ _ => by kernel_rfl) fun _ _ G1 => ?_
  intro S1 t1
  refine nm ((!(decide (Bg.RtB f_P_Sign f_P_Digits))) || (!(decide (Bg.RtB f_Q_Sign f_Q_Digits))) : Bool) fun p1 hp1 => ?_
  refine V.go [.k (pp ((G1 0).b) 0),
    .ld 0 0 true (fun _ => Dat.cells (DBig.mk f_P_Sign ⟨f_P_Digits, f_P_Digitss⟩)),
    .cp g0 2 51 [(kf false (.f 0) f_P_Digits (fun _ => f_P_Digitss)).a] (fun _ G => bright_ct f_P_Sign f_P_Digits f_P_Digitss),
    .k (bv (!(decide (Bg.RtB f_P_Sign f_P_Digits)))),
    .k (bv (!(decide (Bg.RtB f_P_Sign f_P_Digits)))),
    .k (pp ((G1 0).b) 2),
    .ld 0 2 true (fun _ => Dat.cells (DBig.mk f_Q_Sign ⟨f_Q_Digits, f_Q_Digitss⟩)),
    .cp (gF (b := !(decide (Bg.RtB f_P_Sign f_P_Digits))) (iNF iDT)) 7 51 [(kf false (.f 1) f_Q_Digits (fun _ => f_Q_Digitss)).a] (fun hg G => bright_ct f_Q_Sign f_Q_Digits f_Q_Digitss),
    .k (bv (!(decide (Bg.RtB f_Q_Sign f_Q_Digits)))),
    .orn g0 false (!(decide (Bg.RtB f_P_Sign f_P_Digits))) (!(decide (Bg.RtB f_Q_Sign f_Q_Digits))) p1 hp1,
    .k (bv p1),
    .k (pp ((G1 0).b) 2),
    .k (pp ((G1 0).b) 2),
    .ld 0 2 false (fun _ => [iv f_Q_Sign]),
    .k (bv (!(decide (f_Q_Sign = 1)))),
    .or g0 false p1 (!(decide (f_Q_Sign = 1)))] (fun _ _ => by kernel_rfl) fun _ _ G2 => ?_
  intro S2 t2
  refine V.cond (b := p1 || (!(decide (f_Q_Sign = 1)))) (iOT (iN hp1 (iOT (iNT iDF) (iNT iDF))) (iNT iDF)) (iOF (iN hp1 (iOF (iNF iDT) (iNF iDT))) (iNF iDT)) (by kernel_rfl) (fun q1 => ?_) (fun q2 => ?_)
  · skip
    refine V.go [.kb false] (fun _ _ => by kernel_rfl) fun _ _ G3 => ?_
    intro S3 t3
    have e0 : false = decide (Fr.FrB f_P_Sign f_P_Digits f_Q_Sign f_Q_Digits) := by
      exact (decide_eq_false fun h => by have hqq := q1; rcases hqq with (h1 | h1) | h1; exact h1 h.1; exact h1 h.2.1; exact h1 h.2.2.1).symm
    exact V.ret [0] [] [] [] [] [] (bv false) (fun _ _ => by kernel_rfl) (fun _ _ => (Eq.trans (by kernel_rfl) (cong1 (fun (x0 : Bool) => (bv x0 : Value)) e0)).trans (by kernel_rfl)) (fun _ _ => trivial)
  · skip
    have hR : (Bg.RtB f_P_Sign f_P_Digits ∧ Bg.RtB f_Q_Sign f_Q_Digits) ∧ f_Q_Sign = 1 := by have hqq := q2; first | exact hqq | exact ⟨⟨Decidable.not_not.1 hqq.1.1, Decidable.not_not.1 hqq.1.2⟩, Decidable.not_not.1 hqq.2⟩
    obtain ⟨⟨hR1, hR2⟩, hR3⟩ := hR
    refine nm (Bg.oS (Bg.RtB f_P_Sign f_P_Digits ∧ Bg.RtB f_Q_Sign f_Q_Digits) ((Nat.gcd (Bg.nv f_P_Digits) (Bg.nv f_Q_Digits) : Int)) : Int) fun n1 hn1 => ?_
    refine nm (Bg.oD (Bg.RtB f_P_Sign f_P_Digits ∧ Bg.RtB f_Q_Sign f_Q_Digits) ((Nat.gcd (Bg.nv f_P_Digits) (Bg.nv f_Q_Digits) : Int)) : List Int) fun l1 hl1 => ?_
    have hl1n := congrArg List.length hl1
    refine nm (if (Bg.RtB f_P_Sign f_P_Digits ∧ Bg.RtB f_Q_Sign f_Q_Digits) then (0 : Int) else 1 : Int) fun n2 hn2 => ?_
    have zg := Fr.Bz.gcd (Fr.RtB.z hR1) (Fr.RtB.z hR2) hn1 hl1
    have hge : n2 = 0 := by rw [hn2]; exact if_pos ⟨hR1, hR2⟩
    have hga : Nat.gcd (Bg.zv f_P_Sign f_P_Digits).natAbs (Bg.zv f_Q_Sign f_Q_Digits).natAbs = Nat.gcd (Bg.nv f_P_Digits) (Bg.nv f_Q_Digits) := by rw [(Fr.RtB.z hR1).nat, (Fr.RtB.z hR2).nat]
    have hgn : ((Nat.gcd (Bg.zv f_P_Sign f_P_Digits).natAbs (Bg.zv f_Q_Sign f_Q_Digits).natAbs : Nat) : Int) = 1 → Nat.gcd (Bg.nv f_P_Digits) (Bg.nv f_Q_Digits) = 1 := fun h => by omega
    have hgm : Nat.gcd (Bg.nv f_P_Digits) (Bg.nv f_Q_Digits) = 1 → ((Nat.gcd (Bg.zv f_P_Sign f_P_Digits).natAbs (Bg.zv f_Q_Sign f_Q_Digits).natAbs : Nat) : Int) = 1 := fun h => by omega
    refine V.reg [.k (pp ((G1 0).b) 0),
      .ld 0 0 true (fun _ => Dat.cells (DBig.mk f_P_Sign ⟨f_P_Digits, f_P_Digitss⟩)),
      .k (pp ((G1 0).b) 2),
      .ld 0 2 true (fun _ => Dat.cells (DBig.mk f_Q_Sign ⟨f_Q_Digits, f_Q_Digitss⟩)),
      .ct g0 4 52 false [] [] [(kf false (.f 0) f_P_Digits (fun _ => f_P_Digitss)).a, (kf false (.f 1) f_Q_Digits (fun _ => f_Q_Digitss)).a] (fun _ G => Gcd_ctv f_P_Sign f_P_Digits f_P_Digitss f_Q_Sign f_Q_Digits f_Q_Digitss (by omega) (by omega) n1 hn1 l1 hl1 n2 hn2),
      .v fun G => .tuple #[ag (DBig.mk n1 ⟨l1, (G 4).ss 0⟩), iv n2],
      .v fun G => ag (DBig.mk n1 ⟨l1, (G 4).ss 0⟩),
      .k (iv n2),
      .nb 8 1 (fun b => pp b 0) 31 (fun _ => ca (DBig.mk 0 ⟨[], {}⟩)),
      .st 1 (fun G => .blk ((G 8).b) (ca (DBig.mk n1 ⟨l1, (G 4).ss 0⟩)) 31),
      .k (iv n2)] (fun _ _ => by kernel_rfl) fun _ _ G4 kw4 => ?_
    intro S4 t4
    obtain ⟨⟨kl3, -⟩, -⟩ : Lq l1 (((G4 4).ss 0).v) ∧ True := kn kw4 (by kernel_rfl)
    clear kw4
    refine nm ((decide (n2 = 0)) && (decide (Bg.intV n1 l1 = 1)) : Bool) fun p2 hp2 => ?_
    refine V.go [.k (iv n2),
      .k (bv (decide (n2 = 0))),
      .k (bv (decide (n2 = 0))),
      .ld 1 0 true (fun _ => Dat.cells (DBig.mk n1 ⟨l1, (G4 4).ss 0⟩)),
      .cp (gT (b := decide (n2 = 0)) iDT) 4 53 [(kf true (.f 2) l1 (fun _ => (G4 4).ss 0)).a] (fun hg G => one_ct n1 l1 ((G4 4).ss 0)),
      .andn g0 false (decide (n2 = 0)) (decide (Bg.intV n1 l1 = 1)) p2 hp2,
      .k (bv p2)] (fun _ _ => by kernel_rfl) fun _ _ G5 => ?_
    intro S5 t5
    have e0 : p2 = decide (Fr.FrB f_P_Sign f_P_Digits f_Q_Sign f_Q_Digits) := by
      refine Bool.eq_iff_iff.2 (Iff.trans (iN hp2 (iAT iDT iDT)) (Iff.trans ?_ decide_eq_true_iff.symm))
      rw [Fr.one_is zg, hge]
      constructor
      · rintro ⟨_, h⟩; exact ⟨hR1, hR2, hR3, hgn h⟩
      · intro h; exact ⟨rfl, hgm h.2.2.2⟩
    exact V.ret [0] [] [] [] [] [] (bv p2) (fun _ _ => by kernel_rfl) (fun _ _ => (Eq.trans (by kernel_rfl) (cong1 (fun (x0 : Bool) => (bv x0 : Value)) e0)).trans (by kernel_rfl)) (fun _ _ => trivial)

set_option maxRecDepth 10000 in
theorem times_ct (a_Sign : Int) (a_Digits : List Int) (a_Digitss : SV) (b_Sign : Int) (b_Digits : List Int) (b_Digitss : SV) (hla : a_Digits.length ≤ 274877906944) (hlb : b_Digits.length ≤ 274877906944) :
    Ct Try.prog 39 #[ag (DBig.mk a_Sign ⟨a_Digits, a_Digitss⟩), ag (DBig.mk b_Sign ⟨b_Digits, b_Digitss⟩)] [fs true a_Digits a_Digitss, fs true b_Digits b_Digitss] [] (fun g => ag (DBig.mk (Bg.oS (Bg.RtB a_Sign a_Digits ∧ Bg.RtB b_Sign b_Digits) (Bg.zv a_Sign a_Digits * Bg.zv b_Sign b_Digits)) ⟨Bg.oD (Bg.RtB a_Sign a_Digits ∧ Bg.RtB b_Sign b_Digits) (Bg.zv a_Sign a_Digits * Bg.zv b_Sign b_Digits), (g.ss 0)⟩)) (fun g => [fs true (Bg.oD (Bg.RtB a_Sign a_Digits ∧ Bg.RtB b_Sign b_Digits) (Bg.zv a_Sign a_Digits * Bg.zv b_Sign b_Digits)) (g.ss 0)]) (fun g => []) (fun g => []) := by
  refine V.fn mo Try.func39 14 4 (by kernel_rfl) fun w H ε k0 => ?_
  obtain ⟨⟨kl1, -⟩, ⟨kl2, -⟩, -⟩ : Lq a_Digits a_Digitss.v ∧ Lq b_Digits b_Digitss.v ∧ True := kn k0 (by kernel_rfl)
  clear k0
  refine V.go [.nb 0 0 (fun b => pp b 0) 31 (fun _ => ca (DBig.mk a_Sign ⟨a_Digits, a_Digitss⟩)),
    .nb 1 1 (fun b => pp b 0) 31 (fun _ => ca (DBig.mk b_Sign ⟨b_Digits, b_Digitss⟩)),
    .nb 2 2 (fun b => pp b 0) 31 (fun _ => ca (DBig.mk 0 ⟨[], {}⟩))] (fun _ _ => by kernel_rfl) fun _ _ G1 => ?_
  intro S1 t1
  refine nm (Bg.oS (Bg.RtB a_Sign a_Digits ∧ Bg.RtB b_Sign b_Digits) (Bg.zv a_Sign a_Digits * Bg.zv b_Sign b_Digits) : Int) fun n1 hn1 => ?_
  refine nm (Bg.oD (Bg.RtB a_Sign a_Digits ∧ Bg.RtB b_Sign b_Digits) (Bg.zv a_Sign a_Digits * Bg.zv b_Sign b_Digits) : List Int) fun l1 hl1 => ?_
  have hl1n := congrArg List.length hl1
  refine nm (if (Bg.RtB a_Sign a_Digits ∧ Bg.RtB b_Sign b_Digits) then (0 : Int) else 1 : Int) fun n2 hn2 => ?_
  refine V.reg [.ld 0 0 true (fun _ => Dat.cells (DBig.mk a_Sign ⟨a_Digits, a_Digitss⟩)),
    .ld 1 0 true (fun _ => Dat.cells (DBig.mk b_Sign ⟨b_Digits, b_Digitss⟩)),
    .ct g0 2 78 false [] [] [(kf false (.f 0) a_Digits (fun _ => a_Digitss)).a, (kf false (.f 1) b_Digits (fun _ => b_Digitss)).a] (fun _ G => Mul_ctv a_Sign a_Digits a_Digitss b_Sign b_Digits b_Digitss (by omega) (by omega) n1 hn1 l1 hl1 n2 hn2),
    .v fun G => .tuple #[ag (DBig.mk n1 ⟨l1, (G 2).ss 0⟩), iv n2],
    .v fun G => ag (DBig.mk n1 ⟨l1, (G 2).ss 0⟩),
    .k (iv n2),
    .nb 6 3 (fun b => pp b 0) 31 (fun _ => ca (DBig.mk 0 ⟨[], {}⟩)),
    .st 3 (fun G => .blk ((G 6).b) (ca (DBig.mk n1 ⟨l1, (G 2).ss 0⟩)) 31),
    .k (iv n2)] (fun _ _ => by kernel_rfl) fun _ _ G2 kw2 => ?_
  intro S2 t2
  obtain ⟨⟨kl3, -⟩, -⟩ : Lq l1 (((G2 2).ss 0).v) ∧ True := kn kw2 (by kernel_rfl)
  clear kw2
  refine V.go [.ld 3 0 true (fun _ => Dat.cells (DBig.mk n1 ⟨l1, (G2 2).ss 0⟩)),
    .st 2 (fun _ => .blk ((G1 2).b) (ca (DBig.mk n1 ⟨l1, (G2 2).ss 0⟩)) 31)] (fun _ _ => by kernel_rfl) fun _ _ G3 => ?_
  intro S3 t3
  have e1 : l1 = Bg.oD (Bg.RtB a_Sign a_Digits ∧ Bg.RtB b_Sign b_Digits) (Bg.zv a_Sign a_Digits * Bg.zv b_Sign b_Digits) := by
    rw [hl1]
  subst e1
  have e0 : n1 = Bg.oS (Bg.RtB a_Sign a_Digits ∧ Bg.RtB b_Sign b_Digits) (Bg.zv a_Sign a_Digits * Bg.zv b_Sign b_Digits) := by
    rw [hn1]
  exact V.ret [2] [(G2 2).ss 0] [fun _ => {}] [] [2] [] (ag (DBig.mk n1 ⟨(Bg.oD (Bg.RtB a_Sign a_Digits ∧ Bg.RtB b_Sign b_Digits) (Bg.zv a_Sign a_Digits * Bg.zv b_Sign b_Digits)), (G2 2).ss 0⟩)) (fun _ _ => by kernel_rfl) (fun _ _ => (Eq.trans (by kernel_rfl) (cong1 (fun (x0 : Int) => (.agg #[iv x0, ((G2 2).ss 0).v] : Value)) e0)).trans (by kernel_rfl)) (fun _ _ => trivial)
theorem times_ctv (a_Sign : Int) (a_Digits : List Int) (a_Digitss : SV) (b_Sign : Int) (b_Digits : List Int) (b_Digitss : SV) (hla : a_Digits.length ≤ 274877906944) (hlb : b_Digits.length ≤ 274877906944) (rv0 : Int) (erv0 : rv0 = Bg.oS (Bg.RtB a_Sign a_Digits ∧ Bg.RtB b_Sign b_Digits) (Bg.zv a_Sign a_Digits * Bg.zv b_Sign b_Digits)) (rv1 : List Int) (erv1 : rv1 = Bg.oD (Bg.RtB a_Sign a_Digits ∧ Bg.RtB b_Sign b_Digits) (Bg.zv a_Sign a_Digits * Bg.zv b_Sign b_Digits)) :
    Ct Try.prog 39 #[ag (DBig.mk a_Sign ⟨a_Digits, a_Digitss⟩), ag (DBig.mk b_Sign ⟨b_Digits, b_Digitss⟩)] [fs true a_Digits a_Digitss, fs true b_Digits b_Digitss] [] (fun g => ag (DBig.mk rv0 ⟨rv1, (g.ss 0)⟩)) (fun g => [fs true rv1 (g.ss 0)]) (fun g => []) (fun g => []) := by
  subst erv0 erv1; exact times_ct a_Sign a_Digits a_Digitss b_Sign b_Digits b_Digitss hla hlb

set_option maxRecDepth 10000 in
theorem new_ct (p_Sign : Int) (p_Digits : List Int) (p_Digitss : SV) (q_Sign : Int) (q_Digits : List Int) (q_Digitss : SV) (hlp : p_Digits.length ≤ 274877906944) (hlq : q_Digits.length ≤ 274877906944) :
    Ct Try.prog 38 #[ag (DBig.mk p_Sign ⟨p_Digits, p_Digitss⟩), ag (DBig.mk q_Sign ⟨q_Digits, q_Digitss⟩)] [fs true p_Digits p_Digitss, fs true q_Digits q_Digitss] [] (fun g => .tuple #[ag (DFrac.mk (DBig.mk (Fr.rS ((Bg.RtB p_Sign p_Digits ∧ Bg.RtB q_Sign q_Digits) ∧ q_Sign ≠ 0) (Rat.divInt (Bg.zv p_Sign p_Digits) (Bg.zv q_Sign q_Digits))) ⟨Fr.rD ((Bg.RtB p_Sign p_Digits ∧ Bg.RtB q_Sign q_Digits) ∧ q_Sign ≠ 0) (Rat.divInt (Bg.zv p_Sign p_Digits) (Bg.zv q_Sign q_Digits)), (g.ss 0)⟩) (DBig.mk (Fr.rT ((Bg.RtB p_Sign p_Digits ∧ Bg.RtB q_Sign q_Digits) ∧ q_Sign ≠ 0)) ⟨Fr.rE ((Bg.RtB p_Sign p_Digits ∧ Bg.RtB q_Sign q_Digits) ∧ q_Sign ≠ 0) (Rat.divInt (Bg.zv p_Sign p_Digits) (Bg.zv q_Sign q_Digits)), (g.ss 1)⟩)), iv (if ¬ (Bg.RtB p_Sign p_Digits ∧ Bg.RtB q_Sign q_Digits) then (1 : Int) else if q_Sign = 0 then 15 else 0)]) (fun g => [fs true (Fr.rD ((Bg.RtB p_Sign p_Digits ∧ Bg.RtB q_Sign q_Digits) ∧ q_Sign ≠ 0) (Rat.divInt (Bg.zv p_Sign p_Digits) (Bg.zv q_Sign q_Digits))) (g.ss 0), fs true (Fr.rE ((Bg.RtB p_Sign p_Digits ∧ Bg.RtB q_Sign q_Digits) ∧ q_Sign ≠ 0) (Rat.divInt (Bg.zv p_Sign p_Digits) (Bg.zv q_Sign q_Digits))) (g.ss 1)]) (fun g => []) (fun g => []) := by
  refine V.fn mo Try.func38 60 8 (by kernel_rfl) fun w H ε k0 => ?_
  obtain ⟨⟨kl1, -⟩, ⟨kl2, -⟩, -⟩ : Lq p_Digits p_Digitss.v ∧ Lq q_Digits q_Digitss.v ∧ True := kn k0 (by kernel_rfl)
  clear k0
  refine V.go [.nb 0 0 (fun b => pp b 0) 31 (fun _ => ca (DBig.mk p_Sign ⟨p_Digits, p_Digitss⟩)),
    .nb 1 1 (fun b => pp b 0) 31 (fun _ => ca (DBig.mk q_Sign ⟨q_Digits, q_Digitss⟩)),
    .nb 2 2 (fun b => pp b 0) 33 (fun _ => ca (DFrac.mk (DBig.mk 0 ⟨[], {}⟩) (DBig.mk 0 ⟨[], {}⟩))),
    .k (iv 0)] (fun _ _ => by kernel_rfl) fun _ _ G1 => ?_
  intro S1 t1
  refine nm ((!(decide (Bg.RtB p_Sign p_Digits))) || (!(decide (Bg.RtB q_Sign q_Digits))) : Bool) fun p1 hp1 => ?_
  refine V.go [.ld 0 0 true (fun _ => Dat.cells (DBig.mk p_Sign ⟨p_Digits, p_Digitss⟩)),
    .cp g0 1 51 [(kf false (.f 0) p_Digits (fun _ => p_Digitss)).a] (fun _ G => bright_ct p_Sign p_Digits p_Digitss),
    .k (bv (!(decide (Bg.RtB p_Sign p_Digits)))),
    .k (bv (!(decide (Bg.RtB p_Sign p_Digits)))),
    .ld 1 0 true (fun _ => Dat.cells (DBig.mk q_Sign ⟨q_Digits, q_Digitss⟩)),
    .cp (gF (b := !(decide (Bg.RtB p_Sign p_Digits))) (iNF iDT)) 5 51 [(kf false (.f 1) q_Digits (fun _ => q_Digitss)).a] (fun hg G => bright_ct q_Sign q_Digits q_Digitss),
    .k (bv (!(decide (Bg.RtB q_Sign q_Digits)))),
    .orn g0 false (!(decide (Bg.RtB p_Sign p_Digits))) (!(decide (Bg.RtB q_Sign q_Digits))) p1 hp1,
    .k (bv p1)] (fun _ _ => by kernel_rfl) fun _ _ G2 => ?_
  intro S2 t2
  refine V.cond (b := p1) (iN hp1 (iOT (iNT iDF) (iNT iDF))) (iN hp1 (iOF (iNF iDT) (iNF iDT))) (by kernel_rfl) (fun q1 => ?_) (fun q2 => ?_)
  · skip
    have hNR : ¬ (Bg.RtB p_Sign p_Digits ∧ Bg.RtB q_Sign q_Digits) := by rintro ⟨h1, h2⟩; rcases q1 with h | h; exact h h1; exact h h2
    refine V.go [.k (ag (DFrac.mk (DBig.mk 0 ⟨[], {}⟩) (DBig.mk 0 ⟨[], {}⟩))),
      .st 2 (fun _ => .blk ((G1 2).b) (ca (DFrac.mk (DBig.mk 0 ⟨[], {}⟩) (DBig.mk 0 ⟨[], {}⟩))) 33),
      .k (iv 1)] (fun _ _ => by kernel_rfl) fun _ _ G3 => ?_
    intro S3 t3
    refine V.nilF (α := Int) ?_
    refine V.nilF (α := Int) ?_
    have e1 : ([] : List Int) = Fr.rD ((Bg.RtB p_Sign p_Digits ∧ Bg.RtB q_Sign q_Digits) ∧ q_Sign ≠ 0) (Rat.divInt (Bg.zv p_Sign p_Digits) (Bg.zv q_Sign q_Digits)) := by
      exact (Fr.Fz.no (fun h => hNR h.1) (Rat.divInt (Bg.zv p_Sign p_Digits) (Bg.zv q_Sign q_Digits))).2.1
    rw [← e1]
    have e3 : ([] : List Int) = Fr.rE ((Bg.RtB p_Sign p_Digits ∧ Bg.RtB q_Sign q_Digits) ∧ q_Sign ≠ 0) (Rat.divInt (Bg.zv p_Sign p_Digits) (Bg.zv q_Sign q_Digits)) := by
      exact (Fr.Fz.no (fun h => hNR h.1) (Rat.divInt (Bg.zv p_Sign p_Digits) (Bg.zv q_Sign q_Digits))).2.2.2
    rw [← e3]
    have e0 : (0 : Int) = Fr.rS ((Bg.RtB p_Sign p_Digits ∧ Bg.RtB q_Sign q_Digits) ∧ q_Sign ≠ 0) (Rat.divInt (Bg.zv p_Sign p_Digits) (Bg.zv q_Sign q_Digits)) := by
      exact (Fr.Fz.no (fun h => hNR h.1) (Rat.divInt (Bg.zv p_Sign p_Digits) (Bg.zv q_Sign q_Digits))).1
    have e2 : (0 : Int) = Fr.rT ((Bg.RtB p_Sign p_Digits ∧ Bg.RtB q_Sign q_Digits) ∧ q_Sign ≠ 0) := by
      exact (Fr.Fz.no (fun h => hNR h.1) (Rat.divInt (Bg.zv p_Sign p_Digits) (Bg.zv q_Sign q_Digits))).2.2.1
    have e4 : (1 : Int) = if ¬ (Bg.RtB p_Sign p_Digits ∧ Bg.RtB q_Sign q_Digits) then (1 : Int) else if q_Sign = 0 then 15 else 0 := by
      exact (if_pos hNR).symm
    exact V.ret [2, 0] [{}, {}] [fun _ => {}, fun _ => {}] [] [2, 3] [] (.tuple #[ag (DFrac.mk (DBig.mk 0 ⟨([] : List Int), {}⟩) (DBig.mk 0 ⟨([] : List Int), {}⟩)), iv 1]) (fun _ _ => by kernel_rfl) (fun _ _ => (Eq.trans (by kernel_rfl) (cong3 (fun (x0 : Int) (x2 : Int) (x4 : Int) => (.tuple #[.agg #[iv x0, SV.v ({}), iv x2, SV.v ({})], iv x4] : Value)) e0 e2 e4)).trans (by kernel_rfl)) (fun _ _ => trivial)
  · skip
    have hRR : (Bg.RtB p_Sign p_Digits ∧ Bg.RtB q_Sign q_Digits) := by first | exact q2 | exact ⟨Decidable.not_not.1 (q2).1, Decidable.not_not.1 (q2).2⟩
    refine V.go [.k (pp ((G1 1).b) 0),
      .ld 1 0 false (fun _ => [iv q_Sign]),
      .k (bv (decide (q_Sign = 0))),
      .k (bv (decide (q_Sign = 0)))] (fun _ _ => by kernel_rfl) fun _ _ G4 => ?_
    intro S4 t4
    refine V.cond (b := decide (q_Sign = 0)) iDT iDF (by kernel_rfl) (fun q3 => ?_) (fun q4 => ?_)
    · skip
      have hz0 : q_Sign = 0 := q3
      refine V.go [.k (ag (DFrac.mk (DBig.mk 0 ⟨[], {}⟩) (DBig.mk 0 ⟨[], {}⟩))),
        .st 2 (fun _ => .blk ((G1 2).b) (ca (DFrac.mk (DBig.mk 0 ⟨[], {}⟩) (DBig.mk 0 ⟨[], {}⟩))) 33),
        .k (iv 15)] (fun _ _ => by kernel_rfl) fun _ _ G5 => ?_
      intro S5 t5
      refine V.nilF (α := Int) ?_
      refine V.nilF (α := Int) ?_
      have e1 : ([] : List Int) = Fr.rD ((Bg.RtB p_Sign p_Digits ∧ Bg.RtB q_Sign q_Digits) ∧ q_Sign ≠ 0) (Rat.divInt (Bg.zv p_Sign p_Digits) (Bg.zv q_Sign q_Digits)) := by
        exact (Fr.Fz.no (fun h => h.2 hz0) (Rat.divInt (Bg.zv p_Sign p_Digits) (Bg.zv q_Sign q_Digits))).2.1
      rw [← e1]
      have e3 : ([] : List Int) = Fr.rE ((Bg.RtB p_Sign p_Digits ∧ Bg.RtB q_Sign q_Digits) ∧ q_Sign ≠ 0) (Rat.divInt (Bg.zv p_Sign p_Digits) (Bg.zv q_Sign q_Digits)) := by
        exact (Fr.Fz.no (fun h => h.2 hz0) (Rat.divInt (Bg.zv p_Sign p_Digits) (Bg.zv q_Sign q_Digits))).2.2.2
      rw [← e3]
      have e0 : (0 : Int) = Fr.rS ((Bg.RtB p_Sign p_Digits ∧ Bg.RtB q_Sign q_Digits) ∧ q_Sign ≠ 0) (Rat.divInt (Bg.zv p_Sign p_Digits) (Bg.zv q_Sign q_Digits)) := by
        exact (Fr.Fz.no (fun h => h.2 hz0) (Rat.divInt (Bg.zv p_Sign p_Digits) (Bg.zv q_Sign q_Digits))).1
      have e2 : (0 : Int) = Fr.rT ((Bg.RtB p_Sign p_Digits ∧ Bg.RtB q_Sign q_Digits) ∧ q_Sign ≠ 0) := by
        exact (Fr.Fz.no (fun h => h.2 hz0) (Rat.divInt (Bg.zv p_Sign p_Digits) (Bg.zv q_Sign q_Digits))).2.2.1
      have e4 : (15 : Int) = if ¬ (Bg.RtB p_Sign p_Digits ∧ Bg.RtB q_Sign q_Digits) then (1 : Int) else if q_Sign = 0 then 15 else 0 := by
        rw [if_neg (fun h => h hRR), if_pos hz0]
      exact V.ret [2, 0] [{}, {}] [fun _ => {}, fun _ => {}] [] [2, 3] [] (.tuple #[ag (DFrac.mk (DBig.mk 0 ⟨([] : List Int), {}⟩) (DBig.mk 0 ⟨([] : List Int), {}⟩)), iv 15]) (fun _ _ => by kernel_rfl) (fun _ _ => (Eq.trans (by kernel_rfl) (cong3 (fun (x0 : Int) (x2 : Int) (x4 : Int) => (.tuple #[.agg #[iv x0, SV.v ({}), iv x2, SV.v ({})], iv x4] : Value)) e0 e2 e4)).trans (by kernel_rfl)) (fun _ _ => trivial)
    · skip
      have hz0 : ¬ q_Sign = 0 := q4
      refine V.go [.k (pp ((G1 1).b) 0),
        .ld 1 0 false (fun _ => [iv q_Sign]),
        .k (bv (decide (q_Sign < 0))),
        .k (bv (decide (q_Sign < 0)))] (fun _ _ => by kernel_rfl) fun _ _ G6 => ?_
      intro S6 t6
      refine V.cond (b := decide (q_Sign < 0)) iDT iDF (by kernel_rfl) (fun q5 => ?_) (fun q6 => ?_)
      · skip
        refine nm (Bg.oS (Bg.RtB p_Sign p_Digits) (-Bg.zv p_Sign p_Digits) : Int) fun n1 hn1 => ?_
        refine nm (Bg.oD (Bg.RtB p_Sign p_Digits) (-Bg.zv p_Sign p_Digits) : List Int) fun l1 hl1 => ?_
        have hl1n := congrArg List.length hl1
        refine nm (Bg.oS (Bg.RtB q_Sign q_Digits) (-Bg.zv q_Sign q_Digits) : Int) fun n2 hn2 => ?_
        refine nm (Bg.oD (Bg.RtB q_Sign q_Digits) (-Bg.zv q_Sign q_Digits) : List Int) fun l2 hl2 => ?_
        have hl2n := congrArg List.length hl2
        obtain ⟨zp, zpl⟩ := Fr.Bz.neg (Fr.RtB.z hRR.1) hn1 hl1
        obtain ⟨zq, zql⟩ := Fr.Bz.neg (Fr.RtB.z hRR.2) hn2 hl2
        have hyp : 0 < -(Bg.zv q_Sign q_Digits) := by have := (Fr.RtB.z hRR.2).neg0 q5; omega
        have hdv : Rat.divInt (-(Bg.zv p_Sign p_Digits)) (-(Bg.zv q_Sign q_Digits)) = Rat.divInt (Bg.zv p_Sign p_Digits) (Bg.zv q_Sign q_Digits) := Rat.neg_divInt_neg _ _
        refine V.reg [.ld 0 0 true (fun _ => Dat.cells (DBig.mk p_Sign ⟨p_Digits, p_Digitss⟩)),
          .ct g0 1 76 false [] [] [(kf false (.f 0) p_Digits (fun _ => p_Digitss)).a] (fun _ G => neg_ctv p_Sign p_Digits p_Digitss (by omega) n1 hn1 l1 hl1),
          .ld 1 0 true (fun _ => Dat.cells (DBig.mk q_Sign ⟨q_Digits, q_Digitss⟩)),
          .ct g0 3 76 false [] [] [(kf false (.f 1) q_Digits (fun _ => q_Digitss)).a] (fun _ G => neg_ctv q_Sign q_Digits q_Digitss (by omega) n2 hn2 l2 hl2),
          .st 0 (fun G => .blk ((G1 0).b) (ca (DBig.mk n1 ⟨l1, (G 1).ss 0⟩)) 31),
          .st 1 (fun G => .blk ((G1 1).b) (ca (DBig.mk n2 ⟨l2, (G 3).ss 0⟩)) 31)] (fun _ _ => by kernel_rfl) fun _ _ G7 kw7 => ?_
        intro S7 t7
        obtain ⟨⟨kl3, -⟩, ⟨kl4, -⟩, -⟩ : Lq l1 (((G7 1).ss 0).v) ∧ Lq l2 (((G7 3).ss 0).v) ∧ True := kn kw7 (by kernel_rfl)
        clear kw7
        refine nm (Bg.oS (Bg.RtB n1 l1 ∧ Bg.RtB n2 l2) ((Nat.gcd (Bg.nv l1) (Bg.nv l2) : Int)) : Int) fun n3 hn3 => ?_
        refine nm (Bg.oD (Bg.RtB n1 l1 ∧ Bg.RtB n2 l2) ((Nat.gcd (Bg.nv l1) (Bg.nv l2) : Int)) : List Int) fun l3 hl3 => ?_
        have hl3n := congrArg List.length hl3
        refine nm (if (Bg.RtB n1 l1 ∧ Bg.RtB n2 l2) then (0 : Int) else 1 : Int) fun n4 hn4 => ?_
        have zg := Fr.Bz.gcd zp zq hn3 hl3
        have zgl := Fr.Bz.gcd_len zp zq hyp zg
        have hg0 := Fr.gcd_pos zg hyp
        refine V.reg [.ld 0 0 true (fun _ => Dat.cells (DBig.mk n1 ⟨l1, (G7 1).ss 0⟩)),
          .ld 1 0 true (fun _ => Dat.cells (DBig.mk n2 ⟨l2, (G7 3).ss 0⟩)),
          .ct g0 2 52 false [] [] [(kf true (.f 2) l1 (fun _ => (G7 1).ss 0)).a, (kf true (.f 3) l2 (fun _ => (G7 3).ss 0)).a] (fun _ G => Gcd_ctv n1 l1 ((G7 1).ss 0) n2 l2 ((G7 3).ss 0) (by omega) (by omega) n3 hn3 l3 hl3 n4 hn4),
          .v fun G => .tuple #[ag (DBig.mk n3 ⟨l3, (G 2).ss 0⟩), iv n4],
          .v fun G => ag (DBig.mk n3 ⟨l3, (G 2).ss 0⟩),
          .k (iv n4),
          .nb 6 3 (fun b => pp b 0) 31 (fun _ => ca (DBig.mk 0 ⟨[], {}⟩)),
          .st 3 (fun G => .blk ((G 6).b) (ca (DBig.mk n3 ⟨l3, (G 2).ss 0⟩)) 31),
          .k (iv n4)] (fun _ _ => by kernel_rfl) fun _ _ G8 kw8 => ?_
        intro S8 t8
        obtain ⟨⟨kl5, -⟩, -⟩ : Lq l3 (((G8 2).ss 0).v) ∧ True := kn kw8 (by kernel_rfl)
        clear kw8
        refine nm (Bg.oS ((Bg.RtB n1 l1 ∧ Bg.RtB n3 l3) ∧ n3 ≠ 0) (Bg.flo (Bg.zv n1 l1) (Bg.zv n3 l3)) : Int) fun n5 hn5 => ?_
        refine nm (Bg.oD ((Bg.RtB n1 l1 ∧ Bg.RtB n3 l3) ∧ n3 ≠ 0) (Bg.flo (Bg.zv n1 l1) (Bg.zv n3 l3)) : List Int) fun l4 hl4 => ?_
        have hl4n := congrArg List.length hl4
        refine nm (Bg.oS ((Bg.RtB n1 l1 ∧ Bg.RtB n3 l3) ∧ n3 ≠ 0) (Bg.fmo (Bg.zv n1 l1) (Bg.zv n3 l3)) : Int) fun n6 hn6 => ?_
        refine nm (Bg.oD ((Bg.RtB n1 l1 ∧ Bg.RtB n3 l3) ∧ n3 ≠ 0) (Bg.fmo (Bg.zv n1 l1) (Bg.zv n3 l3)) : List Int) fun l5 hl5 => ?_
        have hl5n := congrArg List.length hl5
        refine nm (if ¬ (Bg.RtB n1 l1 ∧ Bg.RtB n3 l3) then (1 : Int) else if n3 = 0 then 15 else 0 : Int) fun n7 hn7 => ?_
        have za := Fr.Bz.div zp zg hg0 hn5 hl4
        refine V.reg [.ld 0 0 true (fun _ => Dat.cells (DBig.mk n1 ⟨l1, (G7 1).ss 0⟩)),
          .ld 3 0 true (fun _ => Dat.cells (DBig.mk n3 ⟨l3, (G8 2).ss 0⟩)),
          .ct g0 2 77 false [] [] [(kf true (.f 2) l1 (fun _ => (G7 1).ss 0)).a, (kf true (.f 4) l3 (fun _ => (G8 2).ss 0)).a] (fun _ G => Div_ctv n1 l1 ((G7 1).ss 0) n3 l3 ((G8 2).ss 0) (by omega) (by omega) n5 hn5 l4 hl4 n6 hn6 l5 hl5 n7 hn7),
          .v fun G => .tuple #[ag (DBig.mk n5 ⟨l4, (G 2).ss 0⟩), ag (DBig.mk n6 ⟨l5, (G 2).ss 1⟩), iv n7],
          .v fun G => ag (DBig.mk n5 ⟨l4, (G 2).ss 0⟩),
          .v fun G => ag (DBig.mk n6 ⟨l5, (G 2).ss 1⟩),
          .k (iv n7),
          .nb 7 4 (fun b => pp b 0) 31 (fun _ => ca (DBig.mk 0 ⟨[], {}⟩)),
          .nb 8 5 (fun b => pp b 0) 31 (fun _ => ca (DBig.mk 0 ⟨[], {}⟩)),
          .st 4 (fun G => .blk ((G 7).b) (ca (DBig.mk n5 ⟨l4, (G 2).ss 0⟩)) 31),
          .st 5 (fun G => .blk ((G 8).b) (ca (DBig.mk n6 ⟨l5, (G 2).ss 1⟩)) 31),
          .k (iv n7)] (fun _ _ => by kernel_rfl) fun _ _ G9 kw9 => ?_
        intro S9 t9
        obtain ⟨⟨kl6, -⟩, ⟨kl7, -⟩, -⟩ : Lq l4 (((G9 2).ss 0).v) ∧ Lq l5 (((G9 2).ss 1).v) ∧ True := kn kw9 (by kernel_rfl)
        clear kw9
        refine nm (Bg.oS ((Bg.RtB n2 l2 ∧ Bg.RtB n3 l3) ∧ n3 ≠ 0) (Bg.flo (Bg.zv n2 l2) (Bg.zv n3 l3)) : Int) fun n8 hn8 => ?_
        refine nm (Bg.oD ((Bg.RtB n2 l2 ∧ Bg.RtB n3 l3) ∧ n3 ≠ 0) (Bg.flo (Bg.zv n2 l2) (Bg.zv n3 l3)) : List Int) fun l6 hl6 => ?_
        have hl6n := congrArg List.length hl6
        refine nm (Bg.oS ((Bg.RtB n2 l2 ∧ Bg.RtB n3 l3) ∧ n3 ≠ 0) (Bg.fmo (Bg.zv n2 l2) (Bg.zv n3 l3)) : Int) fun n9 hn9 => ?_
        refine nm (Bg.oD ((Bg.RtB n2 l2 ∧ Bg.RtB n3 l3) ∧ n3 ≠ 0) (Bg.fmo (Bg.zv n2 l2) (Bg.zv n3 l3)) : List Int) fun l7 hl7 => ?_
        have hl7n := congrArg List.length hl7
        refine nm (if ¬ (Bg.RtB n2 l2 ∧ Bg.RtB n3 l3) then (1 : Int) else if n3 = 0 then 15 else 0 : Int) fun n10 hn10 => ?_
        have zb := Fr.Bz.div zq zg hg0 hn8 hl6
        refine V.reg [.ld 1 0 true (fun _ => Dat.cells (DBig.mk n2 ⟨l2, (G7 3).ss 0⟩)),
          .ld 3 0 true (fun _ => Dat.cells (DBig.mk n3 ⟨l3, (G8 2).ss 0⟩)),
          .ct g0 2 77 false [] [] [(kf true (.f 3) l2 (fun _ => (G7 3).ss 0)).a, (kf true (.f 4) l3 (fun _ => (G8 2).ss 0)).a] (fun _ G => Div_ctv n2 l2 ((G7 3).ss 0) n3 l3 ((G8 2).ss 0) (by omega) (by omega) n8 hn8 l6 hl6 n9 hn9 l7 hl7 n10 hn10),
          .v fun G => .tuple #[ag (DBig.mk n8 ⟨l6, (G 2).ss 0⟩), ag (DBig.mk n9 ⟨l7, (G 2).ss 1⟩), iv n10],
          .v fun G => ag (DBig.mk n8 ⟨l6, (G 2).ss 0⟩),
          .v fun G => ag (DBig.mk n9 ⟨l7, (G 2).ss 1⟩),
          .k (iv n10),
          .nb 7 6 (fun b => pp b 0) 31 (fun _ => ca (DBig.mk 0 ⟨[], {}⟩)),
          .nb 8 7 (fun b => pp b 0) 31 (fun _ => ca (DBig.mk 0 ⟨[], {}⟩)),
          .st 6 (fun G => .blk ((G 7).b) (ca (DBig.mk n8 ⟨l6, (G 2).ss 0⟩)) 31),
          .st 7 (fun G => .blk ((G 8).b) (ca (DBig.mk n9 ⟨l7, (G 2).ss 1⟩)) 31),
          .k (iv n10)] (fun _ _ => by kernel_rfl) fun _ _ G10 kw10 => ?_
        intro S10 t10
        obtain ⟨⟨kl8, -⟩, ⟨kl9, -⟩, -⟩ : Lq l6 (((G10 2).ss 0).v) ∧ Lq l7 (((G10 2).ss 1).v) ∧ True := kn kw10 (by kernel_rfl)
        clear kw10
        refine V.go [.ld 4 0 true (fun _ => Dat.cells (DBig.mk n5 ⟨l4, (G9 2).ss 0⟩)),
          .ld 6 0 true (fun _ => Dat.cells (DBig.mk n8 ⟨l6, (G10 2).ss 0⟩)),
          .k (ag (DFrac.mk (DBig.mk n5 ⟨l4, (G9 2).ss 0⟩) (DBig.mk n8 ⟨l6, (G10 2).ss 0⟩))),
          .st 2 (fun _ => .blk ((G1 2).b) (ca (DFrac.mk (DBig.mk n5 ⟨l4, (G9 2).ss 0⟩) (DBig.mk n8 ⟨l6, (G10 2).ss 0⟩))) 33),
          .k (iv 0)] (fun _ _ => by kernel_rfl) fun _ _ G11 => ?_
        intro S11 t11
        have e1 : l4 = Fr.rD ((Bg.RtB p_Sign p_Digits ∧ Bg.RtB q_Sign q_Digits) ∧ q_Sign ≠ 0) (Rat.divInt (Bg.zv p_Sign p_Digits) (Bg.zv q_Sign q_Digits)) := by
          exact (Fr.Fz.ret (Fr.new_fin zp zq hyp zg za zb) ⟨hRR, hz0⟩ (hdv)).2.1
        subst e1
        have e3 : l6 = Fr.rE ((Bg.RtB p_Sign p_Digits ∧ Bg.RtB q_Sign q_Digits) ∧ q_Sign ≠ 0) (Rat.divInt (Bg.zv p_Sign p_Digits) (Bg.zv q_Sign q_Digits)) := by
          exact (Fr.Fz.ret (Fr.new_fin zp zq hyp zg za zb) ⟨hRR, hz0⟩ (hdv)).2.2.2
        subst e3
        have e0 : n5 = Fr.rS ((Bg.RtB p_Sign p_Digits ∧ Bg.RtB q_Sign q_Digits) ∧ q_Sign ≠ 0) (Rat.divInt (Bg.zv p_Sign p_Digits) (Bg.zv q_Sign q_Digits)) := by
          exact (Fr.Fz.ret (Fr.new_fin zp zq hyp zg za zb) ⟨hRR, hz0⟩ (hdv)).1
        have e2 : n8 = Fr.rT ((Bg.RtB p_Sign p_Digits ∧ Bg.RtB q_Sign q_Digits) ∧ q_Sign ≠ 0) := by
          exact (Fr.Fz.ret (Fr.new_fin zp zq hyp zg za zb) ⟨hRR, hz0⟩ (hdv)).2.2.1
        have e4 : (0 : Int) = if ¬ (Bg.RtB p_Sign p_Digits ∧ Bg.RtB q_Sign q_Digits) then (1 : Int) else if q_Sign = 0 then 15 else 0 := by
          rw [if_neg (fun h => h hRR), if_neg hz0]
        exact V.ret [2, 0] [(G9 2).ss 0, (G10 2).ss 0] [fun _ => {}, fun _ => {}] [] [5, 7] [] (.tuple #[ag (DFrac.mk (DBig.mk n5 ⟨(Fr.rD ((Bg.RtB p_Sign p_Digits ∧ Bg.RtB q_Sign q_Digits) ∧ q_Sign ≠ 0) (Rat.divInt (Bg.zv p_Sign p_Digits) (Bg.zv q_Sign q_Digits))), (G9 2).ss 0⟩) (DBig.mk n8 ⟨(Fr.rE ((Bg.RtB p_Sign p_Digits ∧ Bg.RtB q_Sign q_Digits) ∧ q_Sign ≠ 0) (Rat.divInt (Bg.zv p_Sign p_Digits) (Bg.zv q_Sign q_Digits))), (G10 2).ss 0⟩)), iv 0]) (fun _ _ => by kernel_rfl) (fun _ _ => (Eq.trans (by kernel_rfl) (cong3 (fun (x0 : Int) (x2 : Int) (x4 : Int) => (.tuple #[.agg #[iv x0, ((G9 2).ss 0).v, iv x2, ((G10 2).ss 0).v], iv x4] : Value)) e0 e2 e4)).trans (by kernel_rfl)) (fun _ _ => trivial)
      · skip
        have zp := Fr.RtB.z hRR.1; have zq := Fr.RtB.z hRR.2
        have hyp : 0 < (Bg.zv q_Sign q_Digits) := zq.pos (by omega)
        have hdv : Rat.divInt (Bg.zv p_Sign p_Digits) (Bg.zv q_Sign q_Digits) = Rat.divInt (Bg.zv p_Sign p_Digits) (Bg.zv q_Sign q_Digits) := rfl
        refine nm (Bg.oS (Bg.RtB p_Sign p_Digits ∧ Bg.RtB q_Sign q_Digits) ((Nat.gcd (Bg.nv p_Digits) (Bg.nv q_Digits) : Int)) : Int) fun n11 hn11 => ?_
        refine nm (Bg.oD (Bg.RtB p_Sign p_Digits ∧ Bg.RtB q_Sign q_Digits) ((Nat.gcd (Bg.nv p_Digits) (Bg.nv q_Digits) : Int)) : List Int) fun l8 hl8 => ?_
        have hl8n := congrArg List.length hl8
        refine nm (if (Bg.RtB p_Sign p_Digits ∧ Bg.RtB q_Sign q_Digits) then (0 : Int) else 1 : Int) fun n12 hn12 => ?_
        have zg := Fr.Bz.gcd zp zq hn11 hl8
        have zgl := Fr.Bz.gcd_len zp zq hyp zg
        have hg0 := Fr.gcd_pos zg hyp
        refine V.reg [.ld 0 0 true (fun _ => Dat.cells (DBig.mk p_Sign ⟨p_Digits, p_Digitss⟩)),
          .ld 1 0 true (fun _ => Dat.cells (DBig.mk q_Sign ⟨q_Digits, q_Digitss⟩)),
          .ct g0 2 52 false [] [] [(kf false (.f 0) p_Digits (fun _ => p_Digitss)).a, (kf false (.f 1) q_Digits (fun _ => q_Digitss)).a] (fun _ G => Gcd_ctv p_Sign p_Digits p_Digitss q_Sign q_Digits q_Digitss (by omega) (by omega) n11 hn11 l8 hl8 n12 hn12),
          .v fun G => .tuple #[ag (DBig.mk n11 ⟨l8, (G 2).ss 0⟩), iv n12],
          .v fun G => ag (DBig.mk n11 ⟨l8, (G 2).ss 0⟩),
          .k (iv n12),
          .nb 6 3 (fun b => pp b 0) 31 (fun _ => ca (DBig.mk 0 ⟨[], {}⟩)),
          .st 3 (fun G => .blk ((G 6).b) (ca (DBig.mk n11 ⟨l8, (G 2).ss 0⟩)) 31),
          .k (iv n12)] (fun _ _ => by kernel_rfl) fun _ _ G12 kw12 => ?_
        intro S12 t12
        obtain ⟨⟨kl10, -⟩, -⟩ : Lq l8 (((G12 2).ss 0).v) ∧ True := kn kw12 (by kernel_rfl)
        clear kw12
        refine nm (Bg.oS ((Bg.RtB p_Sign p_Digits ∧ Bg.RtB n11 l8) ∧ n11 ≠ 0) (Bg.flo (Bg.zv p_Sign p_Digits) (Bg.zv n11 l8)) : Int) fun n13 hn13 => ?_
        refine nm (Bg.oD ((Bg.RtB p_Sign p_Digits ∧ Bg.RtB n11 l8) ∧ n11 ≠ 0) (Bg.flo (Bg.zv p_Sign p_Digits) (Bg.zv n11 l8)) : List Int) fun l9 hl9 => ?_
        have hl9n := congrArg List.length hl9
        refine nm (Bg.oS ((Bg.RtB p_Sign p_Digits ∧ Bg.RtB n11 l8) ∧ n11 ≠ 0) (Bg.fmo (Bg.zv p_Sign p_Digits) (Bg.zv n11 l8)) : Int) fun n14 hn14 => ?_
        refine nm (Bg.oD ((Bg.RtB p_Sign p_Digits ∧ Bg.RtB n11 l8) ∧ n11 ≠ 0) (Bg.fmo (Bg.zv p_Sign p_Digits) (Bg.zv n11 l8)) : List Int) fun l10 hl10 => ?_
        have hl10n := congrArg List.length hl10
        refine nm (if ¬ (Bg.RtB p_Sign p_Digits ∧ Bg.RtB n11 l8) then (1 : Int) else if n11 = 0 then 15 else 0 : Int) fun n15 hn15 => ?_
        have za := Fr.Bz.div zp zg hg0 hn13 hl9
        refine V.reg [.ld 0 0 true (fun _ => Dat.cells (DBig.mk p_Sign ⟨p_Digits, p_Digitss⟩)),
          .ld 3 0 true (fun _ => Dat.cells (DBig.mk n11 ⟨l8, (G12 2).ss 0⟩)),
          .ct g0 2 77 false [] [] [(kf false (.f 0) p_Digits (fun _ => p_Digitss)).a, (kf true (.f 2) l8 (fun _ => (G12 2).ss 0)).a] (fun _ G => Div_ctv p_Sign p_Digits p_Digitss n11 l8 ((G12 2).ss 0) (by omega) (by omega) n13 hn13 l9 hl9 n14 hn14 l10 hl10 n15 hn15),
          .v fun G => .tuple #[ag (DBig.mk n13 ⟨l9, (G 2).ss 0⟩), ag (DBig.mk n14 ⟨l10, (G 2).ss 1⟩), iv n15],
          .v fun G => ag (DBig.mk n13 ⟨l9, (G 2).ss 0⟩),
          .v fun G => ag (DBig.mk n14 ⟨l10, (G 2).ss 1⟩),
          .k (iv n15),
          .nb 7 4 (fun b => pp b 0) 31 (fun _ => ca (DBig.mk 0 ⟨[], {}⟩)),
          .nb 8 5 (fun b => pp b 0) 31 (fun _ => ca (DBig.mk 0 ⟨[], {}⟩)),
          .st 4 (fun G => .blk ((G 7).b) (ca (DBig.mk n13 ⟨l9, (G 2).ss 0⟩)) 31),
          .st 5 (fun G => .blk ((G 8).b) (ca (DBig.mk n14 ⟨l10, (G 2).ss 1⟩)) 31),
          .k (iv n15)] (fun _ _ => by kernel_rfl) fun _ _ G13 kw13 => ?_
        intro S13 t13
        obtain ⟨⟨kl11, -⟩, ⟨kl12, -⟩, -⟩ : Lq l9 (((G13 2).ss 0).v) ∧ Lq l10 (((G13 2).ss 1).v) ∧ True := kn kw13 (by kernel_rfl)
        clear kw13
        refine nm (Bg.oS ((Bg.RtB q_Sign q_Digits ∧ Bg.RtB n11 l8) ∧ n11 ≠ 0) (Bg.flo (Bg.zv q_Sign q_Digits) (Bg.zv n11 l8)) : Int) fun n16 hn16 => ?_
        refine nm (Bg.oD ((Bg.RtB q_Sign q_Digits ∧ Bg.RtB n11 l8) ∧ n11 ≠ 0) (Bg.flo (Bg.zv q_Sign q_Digits) (Bg.zv n11 l8)) : List Int) fun l11 hl11 => ?_
        have hl11n := congrArg List.length hl11
        refine nm (Bg.oS ((Bg.RtB q_Sign q_Digits ∧ Bg.RtB n11 l8) ∧ n11 ≠ 0) (Bg.fmo (Bg.zv q_Sign q_Digits) (Bg.zv n11 l8)) : Int) fun n17 hn17 => ?_
        refine nm (Bg.oD ((Bg.RtB q_Sign q_Digits ∧ Bg.RtB n11 l8) ∧ n11 ≠ 0) (Bg.fmo (Bg.zv q_Sign q_Digits) (Bg.zv n11 l8)) : List Int) fun l12 hl12 => ?_
        have hl12n := congrArg List.length hl12
        refine nm (if ¬ (Bg.RtB q_Sign q_Digits ∧ Bg.RtB n11 l8) then (1 : Int) else if n11 = 0 then 15 else 0 : Int) fun n18 hn18 => ?_
        have zb := Fr.Bz.div zq zg hg0 hn16 hl11
        refine V.reg [.ld 1 0 true (fun _ => Dat.cells (DBig.mk q_Sign ⟨q_Digits, q_Digitss⟩)),
          .ld 3 0 true (fun _ => Dat.cells (DBig.mk n11 ⟨l8, (G12 2).ss 0⟩)),
          .ct g0 2 77 false [] [] [(kf false (.f 1) q_Digits (fun _ => q_Digitss)).a, (kf true (.f 2) l8 (fun _ => (G12 2).ss 0)).a] (fun _ G => Div_ctv q_Sign q_Digits q_Digitss n11 l8 ((G12 2).ss 0) (by omega) (by omega) n16 hn16 l11 hl11 n17 hn17 l12 hl12 n18 hn18),
          .v fun G => .tuple #[ag (DBig.mk n16 ⟨l11, (G 2).ss 0⟩), ag (DBig.mk n17 ⟨l12, (G 2).ss 1⟩), iv n18],
          .v fun G => ag (DBig.mk n16 ⟨l11, (G 2).ss 0⟩),
          .v fun G => ag (DBig.mk n17 ⟨l12, (G 2).ss 1⟩),
          .k (iv n18),
          .nb 7 6 (fun b => pp b 0) 31 (fun _ => ca (DBig.mk 0 ⟨[], {}⟩)),
          .nb 8 7 (fun b => pp b 0) 31 (fun _ => ca (DBig.mk 0 ⟨[], {}⟩)),
          .st 6 (fun G => .blk ((G 7).b) (ca (DBig.mk n16 ⟨l11, (G 2).ss 0⟩)) 31),
          .st 7 (fun G => .blk ((G 8).b) (ca (DBig.mk n17 ⟨l12, (G 2).ss 1⟩)) 31),
          .k (iv n18)] (fun _ _ => by kernel_rfl) fun _ _ G14 kw14 => ?_
        intro S14 t14
        obtain ⟨⟨kl13, -⟩, ⟨kl14, -⟩, -⟩ : Lq l11 (((G14 2).ss 0).v) ∧ Lq l12 (((G14 2).ss 1).v) ∧ True := kn kw14 (by kernel_rfl)
        clear kw14
        refine V.go [.ld 4 0 true (fun _ => Dat.cells (DBig.mk n13 ⟨l9, (G13 2).ss 0⟩)),
          .ld 6 0 true (fun _ => Dat.cells (DBig.mk n16 ⟨l11, (G14 2).ss 0⟩)),
          .k (ag (DFrac.mk (DBig.mk n13 ⟨l9, (G13 2).ss 0⟩) (DBig.mk n16 ⟨l11, (G14 2).ss 0⟩))),
          .st 2 (fun _ => .blk ((G1 2).b) (ca (DFrac.mk (DBig.mk n13 ⟨l9, (G13 2).ss 0⟩) (DBig.mk n16 ⟨l11, (G14 2).ss 0⟩))) 33),
          .k (iv 0)] (fun _ _ => by kernel_rfl) fun _ _ G15 => ?_
        intro S15 t15
        have e1 : l9 = Fr.rD ((Bg.RtB p_Sign p_Digits ∧ Bg.RtB q_Sign q_Digits) ∧ q_Sign ≠ 0) (Rat.divInt (Bg.zv p_Sign p_Digits) (Bg.zv q_Sign q_Digits)) := by
          exact (Fr.Fz.ret (Fr.new_fin zp zq hyp zg za zb) ⟨hRR, hz0⟩ (hdv)).2.1
        subst e1
        have e3 : l11 = Fr.rE ((Bg.RtB p_Sign p_Digits ∧ Bg.RtB q_Sign q_Digits) ∧ q_Sign ≠ 0) (Rat.divInt (Bg.zv p_Sign p_Digits) (Bg.zv q_Sign q_Digits)) := by
          exact (Fr.Fz.ret (Fr.new_fin zp zq hyp zg za zb) ⟨hRR, hz0⟩ (hdv)).2.2.2
        subst e3
        have e0 : n13 = Fr.rS ((Bg.RtB p_Sign p_Digits ∧ Bg.RtB q_Sign q_Digits) ∧ q_Sign ≠ 0) (Rat.divInt (Bg.zv p_Sign p_Digits) (Bg.zv q_Sign q_Digits)) := by
          exact (Fr.Fz.ret (Fr.new_fin zp zq hyp zg za zb) ⟨hRR, hz0⟩ (hdv)).1
        have e2 : n16 = Fr.rT ((Bg.RtB p_Sign p_Digits ∧ Bg.RtB q_Sign q_Digits) ∧ q_Sign ≠ 0) := by
          exact (Fr.Fz.ret (Fr.new_fin zp zq hyp zg za zb) ⟨hRR, hz0⟩ (hdv)).2.2.1
        have e4 : (0 : Int) = if ¬ (Bg.RtB p_Sign p_Digits ∧ Bg.RtB q_Sign q_Digits) then (1 : Int) else if q_Sign = 0 then 15 else 0 := by
          rw [if_neg (fun h => h hRR), if_neg hz0]
        exact V.ret [2, 0] [(G13 2).ss 0, (G14 2).ss 0] [fun _ => {}, fun _ => {}] [] [3, 5] [] (.tuple #[ag (DFrac.mk (DBig.mk n13 ⟨(Fr.rD ((Bg.RtB p_Sign p_Digits ∧ Bg.RtB q_Sign q_Digits) ∧ q_Sign ≠ 0) (Rat.divInt (Bg.zv p_Sign p_Digits) (Bg.zv q_Sign q_Digits))), (G13 2).ss 0⟩) (DBig.mk n16 ⟨(Fr.rE ((Bg.RtB p_Sign p_Digits ∧ Bg.RtB q_Sign q_Digits) ∧ q_Sign ≠ 0) (Rat.divInt (Bg.zv p_Sign p_Digits) (Bg.zv q_Sign q_Digits))), (G14 2).ss 0⟩)), iv 0]) (fun _ _ => by kernel_rfl) (fun _ _ => (Eq.trans (by kernel_rfl) (cong3 (fun (x0 : Int) (x2 : Int) (x4 : Int) => (.tuple #[.agg #[iv x0, ((G13 2).ss 0).v, iv x2, ((G14 2).ss 0).v], iv x4] : Value)) e0 e2 e4)).trans (by kernel_rfl)) (fun _ _ => trivial)
theorem new_ctv (p_Sign : Int) (p_Digits : List Int) (p_Digitss : SV) (q_Sign : Int) (q_Digits : List Int) (q_Digitss : SV) (hlp : p_Digits.length ≤ 274877906944) (hlq : q_Digits.length ≤ 274877906944) (rv0 : Int) (erv0 : rv0 = Fr.rS ((Bg.RtB p_Sign p_Digits ∧ Bg.RtB q_Sign q_Digits) ∧ q_Sign ≠ 0) (Rat.divInt (Bg.zv p_Sign p_Digits) (Bg.zv q_Sign q_Digits))) (rv1 : List Int) (erv1 : rv1 = Fr.rD ((Bg.RtB p_Sign p_Digits ∧ Bg.RtB q_Sign q_Digits) ∧ q_Sign ≠ 0) (Rat.divInt (Bg.zv p_Sign p_Digits) (Bg.zv q_Sign q_Digits))) (rv2 : Int) (erv2 : rv2 = Fr.rT ((Bg.RtB p_Sign p_Digits ∧ Bg.RtB q_Sign q_Digits) ∧ q_Sign ≠ 0)) (rv3 : List Int) (erv3 : rv3 = Fr.rE ((Bg.RtB p_Sign p_Digits ∧ Bg.RtB q_Sign q_Digits) ∧ q_Sign ≠ 0) (Rat.divInt (Bg.zv p_Sign p_Digits) (Bg.zv q_Sign q_Digits))) (rv4 : Int) (erv4 : rv4 = if ¬ (Bg.RtB p_Sign p_Digits ∧ Bg.RtB q_Sign q_Digits) then (1 : Int) else if q_Sign = 0 then 15 else 0) :
    Ct Try.prog 38 #[ag (DBig.mk p_Sign ⟨p_Digits, p_Digitss⟩), ag (DBig.mk q_Sign ⟨q_Digits, q_Digitss⟩)] [fs true p_Digits p_Digitss, fs true q_Digits q_Digitss] [] (fun g => .tuple #[ag (DFrac.mk (DBig.mk rv0 ⟨rv1, (g.ss 0)⟩) (DBig.mk rv2 ⟨rv3, (g.ss 1)⟩)), iv rv4]) (fun g => [fs true rv1 (g.ss 0), fs true rv3 (g.ss 1)]) (fun g => []) (fun g => []) := by
  subst erv0 erv1 erv2 erv3 erv4; exact new_ct p_Sign p_Digits p_Digitss q_Sign q_Digits q_Digitss hlp hlq

set_option maxRecDepth 10000 in
theorem fof_ct (p q : Int) (hp : -9223372036854775808 ≤ p ∧ p ≤ 9223372036854775807) (hq : -9223372036854775808 ≤ q ∧ q ≤ 9223372036854775807) :
    Ct Try.prog 40 #[iv p, iv q] [] [] (fun g => .tuple #[ag (DFrac.mk (DBig.mk (Fr.rS (q ≠ 0) (Rat.divInt p q)) ⟨Fr.rD (q ≠ 0) (Rat.divInt p q), (g.ss 0)⟩) (DBig.mk (Fr.rT (q ≠ 0)) ⟨Fr.rE (q ≠ 0) (Rat.divInt p q), (g.ss 1)⟩)), iv (if q = 0 then (15 : Int) else 0)]) (fun g => [fs true (Fr.rD (q ≠ 0) (Rat.divInt p q)) (g.ss 0), fs true (Fr.rE (q ≠ 0) (Rat.divInt p q)) (g.ss 1)]) (fun g => []) (fun g => []) := by
  refine V.fn mo Try.func40 13 1 (by kernel_rfl) fun w H ε k0 => ?_
  clear k0
  refine V.go [.nb 0 0 (fun b => pp b 0) 33 (fun _ => ca (DFrac.mk (DBig.mk 0 ⟨[], {}⟩) (DBig.mk 0 ⟨[], {}⟩))),
    .k (iv 0)] (fun _ _ => by kernel_rfl) fun _ _ G1 => ?_
  intro S1 t1
  refine nm (Bg.sgn p : Int) fun n1 hn1 => ?_
  refine nm (Bg.dig p.natAbs : List Int) fun l1 hl1 => ?_
  have hl1n := congrArg List.length hl1
  refine nm (Bg.sgn q : Int) fun n2 hn2 => ?_
  refine nm (Bg.dig q.natAbs : List Int) fun l2 hl2 => ?_
  have hl2n := congrArg List.length hl2
  refine nm (Fr.rS ((Bg.RtB n1 l1 ∧ Bg.RtB n2 l2) ∧ n2 ≠ 0) (Rat.divInt (Bg.zv n1 l1) (Bg.zv n2 l2)) : Int) fun n3 hn3 => ?_
  refine nm (Fr.rD ((Bg.RtB n1 l1 ∧ Bg.RtB n2 l2) ∧ n2 ≠ 0) (Rat.divInt (Bg.zv n1 l1) (Bg.zv n2 l2)) : List Int) fun l3 hl3 => ?_
  have hl3n := congrArg List.length hl3
  refine nm (Fr.rT ((Bg.RtB n1 l1 ∧ Bg.RtB n2 l2) ∧ n2 ≠ 0) : Int) fun n4 hn4 => ?_
  refine nm (Fr.rE ((Bg.RtB n1 l1 ∧ Bg.RtB n2 l2) ∧ n2 ≠ 0) (Rat.divInt (Bg.zv n1 l1) (Bg.zv n2 l2)) : List Int) fun l4 hl4 => ?_
  have hl4n := congrArg List.length hl4
  refine nm (if ¬ (Bg.RtB n1 l1 ∧ Bg.RtB n2 l2) then (1 : Int) else if n2 = 0 then 15 else 0 : Int) fun n5 hn5 => ?_
  have zp := Fr.Bz.int hn1 hl1
  have zq := Fr.Bz.int hn2 hl2
  have zpl := zp.int_len hp; have zql := zq.int_len hq
  obtain ⟨en1, en2, en3, en4, en5⟩ := Fr.of_all zp zq hn3 hl3 hn4 hl4 hn5
  refine V.reg [.k (iv p),
    .ct g0 1 50 false [] [] [] (fun _ G => of_ctv p (by omega) n1 hn1 l1 hl1),
    .k (iv q),
    .ct g0 3 50 false [] [] [] (fun _ G => of_ctv q (by omega) n2 hn2 l2 hl2),
    .ct g0 4 38 false [] [] [(kf true (.g 1 0) l1 (fun G => (G 1).ss 0)).a, (kf true (.g 3 0) l2 (fun G => (G 3).ss 0)).a] (fun _ G => new_ctv n1 l1 ((G 1).ss 0) n2 l2 ((G 3).ss 0) (by omega) (by omega) n3 hn3 l3 hl3 n4 hn4 l4 hl4 n5 hn5),
    .v fun G => ag (DFrac.mk (DBig.mk n3 ⟨l3, (G 4).ss 0⟩) (DBig.mk n4 ⟨l4, (G 4).ss 1⟩)),
    .k (iv n5),
    .st 0 (fun G => .blk ((G1 0).b) (ca (DFrac.mk (DBig.mk n3 ⟨l3, (G 4).ss 0⟩) (DBig.mk n4 ⟨l4, (G 4).ss 1⟩))) 33),
    .k (iv n5)] (fun _ _ => by kernel_rfl) fun _ _ G2 kw2 => ?_
  intro S2 t2
  obtain ⟨⟨kl1, -⟩, ⟨kl2, -⟩, ⟨kl3, -⟩, ⟨kl4, -⟩, -⟩ : Lq l1 (((G2 1).ss 0).v) ∧ Lq l2 (((G2 3).ss 0).v) ∧ Lq l3 (((G2 4).ss 0).v) ∧ Lq l4 (((G2 4).ss 1).v) ∧ True := kn kw2 (by kernel_rfl)
  clear kw2
  have e1 : l3 = Fr.rD (q ≠ 0) (Rat.divInt p q) := by
    exact en2
  subst e1
  have e3 : l4 = Fr.rE (q ≠ 0) (Rat.divInt p q) := by
    exact en4
  subst e3
  have e0 : n3 = Fr.rS (q ≠ 0) (Rat.divInt p q) := by
    exact en1
  have e2 : n4 = Fr.rT (q ≠ 0) := by
    exact en3
  have e4 : n5 = if q = 0 then (15 : Int) else 0 := by
    exact en5
  exact V.ret [0, 0] [(G2 4).ss 0, (G2 4).ss 1] [fun _ => {}, fun _ => {}] [] [2, 3] [] (.tuple #[ag (DFrac.mk (DBig.mk n3 ⟨(Fr.rD (q ≠ 0) (Rat.divInt p q)), (G2 4).ss 0⟩) (DBig.mk n4 ⟨(Fr.rE (q ≠ 0) (Rat.divInt p q)), (G2 4).ss 1⟩)), iv n5]) (fun _ _ => by kernel_rfl) (fun _ _ => (Eq.trans (by kernel_rfl) (cong3 (fun (x0 : Int) (x2 : Int) (x4 : Int) => (.tuple #[.agg #[iv x0, ((G2 4).ss 0).v, iv x2, ((G2 4).ss 1).v], iv x4] : Value)) e0 e2 e4)).trans (by kernel_rfl)) (fun _ _ => trivial)
theorem fof_ctv (p q : Int) (hp : -9223372036854775808 ≤ p ∧ p ≤ 9223372036854775807) (hq : -9223372036854775808 ≤ q ∧ q ≤ 9223372036854775807) (rv0 : Int) (erv0 : rv0 = Fr.rS (q ≠ 0) (Rat.divInt p q)) (rv1 : List Int) (erv1 : rv1 = Fr.rD (q ≠ 0) (Rat.divInt p q)) (rv2 : Int) (erv2 : rv2 = Fr.rT (q ≠ 0)) (rv3 : List Int) (erv3 : rv3 = Fr.rE (q ≠ 0) (Rat.divInt p q)) (rv4 : Int) (erv4 : rv4 = if q = 0 then (15 : Int) else 0) :
    Ct Try.prog 40 #[iv p, iv q] [] [] (fun g => .tuple #[ag (DFrac.mk (DBig.mk rv0 ⟨rv1, (g.ss 0)⟩) (DBig.mk rv2 ⟨rv3, (g.ss 1)⟩)), iv rv4]) (fun g => [fs true rv1 (g.ss 0), fs true rv3 (g.ss 1)]) (fun g => []) (fun g => []) := by
  subst erv0 erv1 erv2 erv3 erv4; exact fof_ct p q hp hq

set_option maxRecDepth 10000 in
theorem fint_ct (n : Int) (hn : -9223372036854775808 ≤ n ∧ n ≤ 9223372036854775807) :
    Ct Try.prog 18 #[iv n] [] [] (fun g => ag (DFrac.mk (DBig.mk (Bg.sgn n) ⟨Bg.dig n.natAbs, (g.ss 0)⟩) (DBig.mk 1 ⟨Bg.dig 1, (g.ss 1)⟩))) (fun g => [fs true (Bg.dig n.natAbs) (g.ss 0), fs true (Bg.dig 1) (g.ss 1)]) (fun g => []) (fun g => []) := by
  refine V.fn mo Try.func18 7 1 (by kernel_rfl) fun w H ε k0 => ?_
  clear k0
  refine V.go [.nb 0 0 (fun b => pp b 0) 33 (fun _ => ca (DFrac.mk (DBig.mk 0 ⟨[], {}⟩) (DBig.mk 0 ⟨[], {}⟩)))] (fun _ _ => by kernel_rfl) fun _ _ G1 => ?_
  intro S1 t1
  refine nm (Bg.sgn n : Int) fun n1 hn1 => ?_
  refine nm (Bg.dig n.natAbs : List Int) fun l1 hl1 => ?_
  have hl1n := congrArg List.length hl1
  refine nm (Bg.sgn (1 : Int) : Int) fun n2 hn2 => ?_
  refine nm (Bg.dig (1 : Int).natAbs : List Int) fun l2 hl2 => ?_
  have hl2n := congrArg List.length hl2
  refine V.reg [.k (iv n),
    .ct g0 1 50 false [] [] [] (fun _ G => of_ctv n (by omega) n1 hn1 l1 hl1),
    .ct g0 2 50 false [] [] [] (fun _ G => of_ctv (1 : Int) (by omega) n2 hn2 l2 hl2),
    .v fun G => ag (DFrac.mk (DBig.mk n1 ⟨l1, (G 1).ss 0⟩) (DBig.mk n2 ⟨l2, (G 2).ss 0⟩)),
    .st 0 (fun G => .blk ((G1 0).b) (ca (DFrac.mk (DBig.mk n1 ⟨l1, (G 1).ss 0⟩) (DBig.mk n2 ⟨l2, (G 2).ss 0⟩))) 33)] (fun _ _ => by kernel_rfl) fun _ _ G2 kw2 => ?_
  intro S2 t2
  obtain ⟨⟨kl1, -⟩, ⟨kl2, -⟩, -⟩ : Lq l1 (((G2 1).ss 0).v) ∧ Lq l2 (((G2 2).ss 0).v) ∧ True := kn kw2 (by kernel_rfl)
  clear kw2
  have e1 : l1 = Bg.dig n.natAbs := by
    subst_vars; rfl
  subst e1
  have e3 : l2 = Bg.dig 1 := by
    subst_vars; rfl
  subst e3
  have e0 : n1 = Bg.sgn n := by
    subst_vars; rfl
  have e2 : n2 = 1 := by
    subst_vars; rfl
  exact V.ret [0] [(G2 1).ss 0, (G2 2).ss 0] [fun _ => {}, fun _ => {}] [] [0, 1] [] (ag (DFrac.mk (DBig.mk n1 ⟨(Bg.dig n.natAbs), (G2 1).ss 0⟩) (DBig.mk n2 ⟨(Bg.dig 1), (G2 2).ss 0⟩))) (fun _ _ => by kernel_rfl) (fun _ _ => (Eq.trans (by kernel_rfl) (cong2 (fun (x0 : Int) (x2 : Int) => (.agg #[iv x0, ((G2 1).ss 0).v, iv x2, ((G2 2).ss 0).v] : Value)) e0 e2)).trans (by kernel_rfl)) (fun _ _ => trivial)
theorem fint_ctv (n : Int) (hn : -9223372036854775808 ≤ n ∧ n ≤ 9223372036854775807) (rv0 : Int) (erv0 : rv0 = Bg.sgn n) (rv1 : List Int) (erv1 : rv1 = Bg.dig n.natAbs) (rv3 : List Int) (erv3 : rv3 = Bg.dig 1) :
    Ct Try.prog 18 #[iv n] [] [] (fun g => ag (DFrac.mk (DBig.mk rv0 ⟨rv1, (g.ss 0)⟩) (DBig.mk 1 ⟨rv3, (g.ss 1)⟩))) (fun g => [fs true rv1 (g.ss 0), fs true rv3 (g.ss 1)]) (fun g => []) (fun g => []) := by
  subst erv0 erv1 erv3; exact fint_ct n hn

set_option maxRecDepth 10000 in
theorem fadd_ct (a_P_Sign : Int) (a_P_Digits : List Int) (a_P_Digitss : SV) (a_Q_Sign : Int) (a_Q_Digits : List Int) (a_Q_Digitss : SV) (b_P_Sign : Int) (b_P_Digits : List Int) (b_P_Digitss : SV) (b_Q_Sign : Int) (b_Q_Digits : List Int) (b_Q_Digitss : SV) (haP : a_P_Digits.length ≤ 17179869184) (haQ : a_Q_Digits.length ≤ 17179869184) (hbP : b_P_Digits.length ≤ 17179869184) (hbQ : b_Q_Digits.length ≤ 17179869184) :
    Ct Try.prog 14 #[ag (DFrac.mk (DBig.mk a_P_Sign ⟨a_P_Digits, a_P_Digitss⟩) (DBig.mk a_Q_Sign ⟨a_Q_Digits, a_Q_Digitss⟩)), ag (DFrac.mk (DBig.mk b_P_Sign ⟨b_P_Digits, b_P_Digitss⟩) (DBig.mk b_Q_Sign ⟨b_Q_Digits, b_Q_Digitss⟩))] [fs true a_P_Digits a_P_Digitss, fs true a_Q_Digits a_Q_Digitss, fs true b_P_Digits b_P_Digitss, fs true b_Q_Digits b_Q_Digitss] [] (fun g => .tuple #[ag (DFrac.mk (DBig.mk (Fr.rS (Fr.FrB a_P_Sign a_P_Digits a_Q_Sign a_Q_Digits ∧ Fr.FrB b_P_Sign b_P_Digits b_Q_Sign b_Q_Digits) ((Fr.fq a_P_Sign a_P_Digits a_Q_Digits) + (Fr.fq b_P_Sign b_P_Digits b_Q_Digits))) ⟨Fr.rD (Fr.FrB a_P_Sign a_P_Digits a_Q_Sign a_Q_Digits ∧ Fr.FrB b_P_Sign b_P_Digits b_Q_Sign b_Q_Digits) ((Fr.fq a_P_Sign a_P_Digits a_Q_Digits) + (Fr.fq b_P_Sign b_P_Digits b_Q_Digits)), (g.ss 0)⟩) (DBig.mk (Fr.rT (Fr.FrB a_P_Sign a_P_Digits a_Q_Sign a_Q_Digits ∧ Fr.FrB b_P_Sign b_P_Digits b_Q_Sign b_Q_Digits)) ⟨Fr.rE (Fr.FrB a_P_Sign a_P_Digits a_Q_Sign a_Q_Digits ∧ Fr.FrB b_P_Sign b_P_Digits b_Q_Sign b_Q_Digits) ((Fr.fq a_P_Sign a_P_Digits a_Q_Digits) + (Fr.fq b_P_Sign b_P_Digits b_Q_Digits)), (g.ss 1)⟩)), iv (if ¬ (Fr.FrB a_P_Sign a_P_Digits a_Q_Sign a_Q_Digits ∧ Fr.FrB b_P_Sign b_P_Digits b_Q_Sign b_Q_Digits) then (1 : Int) else 0)]) (fun g => [fs true (Fr.rD (Fr.FrB a_P_Sign a_P_Digits a_Q_Sign a_Q_Digits ∧ Fr.FrB b_P_Sign b_P_Digits b_Q_Sign b_Q_Digits) ((Fr.fq a_P_Sign a_P_Digits a_Q_Digits) + (Fr.fq b_P_Sign b_P_Digits b_Q_Digits))) (g.ss 0), fs true (Fr.rE (Fr.FrB a_P_Sign a_P_Digits a_Q_Sign a_Q_Digits ∧ Fr.FrB b_P_Sign b_P_Digits b_Q_Sign b_Q_Digits) ((Fr.fq a_P_Sign a_P_Digits a_Q_Digits) + (Fr.fq b_P_Sign b_P_Digits b_Q_Digits))) (g.ss 1)]) (fun g => []) (fun g => []) := by
  refine V.fn mo Try.func14 40 4 (by kernel_rfl) fun w H ε k0 => ?_
  obtain ⟨⟨kl1, -⟩, ⟨kl2, -⟩, ⟨kl3, -⟩, ⟨kl4, -⟩, -⟩ : Lq a_P_Digits a_P_Digitss.v ∧ Lq a_Q_Digits a_Q_Digitss.v ∧ Lq b_P_Digits b_P_Digitss.v ∧ Lq b_Q_Digits b_Q_Digitss.v ∧ True := kn k0 (by kernel_rfl)
  clear k0
  refine V.go [.nb 0 0 (fun b => pp b 0) 33 (fun _ => ca (DFrac.mk (DBig.mk a_P_Sign ⟨a_P_Digits, a_P_Digitss⟩) (DBig.mk a_Q_Sign ⟨a_Q_Digits, a_Q_Digitss⟩))),
    .nb 1 1 (fun b => pp b 0) 33 (fun _ => ca (DFrac.mk (DBig.mk b_P_Sign ⟨b_P_Digits, b_P_Digitss⟩) (DBig.mk b_Q_Sign ⟨b_Q_Digits, b_Q_Digitss⟩))),
    .nb 2 2 (fun b => pp b 0) 33 (fun _ => ca (DFrac.mk (DBig.mk 0 ⟨[], {}⟩) (DBig.mk 0 ⟨[], {}⟩))),
    .k (iv 0)] (fun _ _ => by kernel_rfl) fun _ _ G1 => ?_
  intro S1 t1
  refine nm ((!(decide (Fr.FrB a_P_Sign a_P_Digits a_Q_Sign a_Q_Digits))) || (!(decide (Fr.FrB b_P_Sign b_P_Digits b_Q_Sign b_Q_Digits))) : Bool) fun p1 hp1 => ?_
  refine V.go [.ld 0 0 true (fun _ => Dat.cells (DFrac.mk (DBig.mk a_P_Sign ⟨a_P_Digits, a_P_Digitss⟩) (DBig.mk a_Q_Sign ⟨a_Q_Digits, a_Q_Digitss⟩))),
    .cp g0 1 19 [(kf false (.f 0) a_P_Digits (fun _ => a_P_Digitss)).a, (kf false (.f 1) a_Q_Digits (fun _ => a_Q_Digitss)).a] (fun _ G => right_ct a_P_Sign a_P_Digits a_P_Digitss a_Q_Sign a_Q_Digits a_Q_Digitss (by omega) (by omega)),
    .k (bv (!(decide (Fr.FrB a_P_Sign a_P_Digits a_Q_Sign a_Q_Digits)))),
    .k (bv (!(decide (Fr.FrB a_P_Sign a_P_Digits a_Q_Sign a_Q_Digits)))),
    .ld 1 0 true (fun _ => Dat.cells (DFrac.mk (DBig.mk b_P_Sign ⟨b_P_Digits, b_P_Digitss⟩) (DBig.mk b_Q_Sign ⟨b_Q_Digits, b_Q_Digitss⟩))),
    .cp (gF (b := !(decide (Fr.FrB a_P_Sign a_P_Digits a_Q_Sign a_Q_Digits))) (iNF iDT)) 5 19 [(kf false (.f 2) b_P_Digits (fun _ => b_P_Digitss)).a, (kf false (.f 3) b_Q_Digits (fun _ => b_Q_Digitss)).a] (fun hg G => right_ct b_P_Sign b_P_Digits b_P_Digitss b_Q_Sign b_Q_Digits b_Q_Digitss (by omega) (by omega)),
    .k (bv (!(decide (Fr.FrB b_P_Sign b_P_Digits b_Q_Sign b_Q_Digits)))),
    .orn g0 false (!(decide (Fr.FrB a_P_Sign a_P_Digits a_Q_Sign a_Q_Digits))) (!(decide (Fr.FrB b_P_Sign b_P_Digits b_Q_Sign b_Q_Digits))) p1 hp1] (fun _ _ => by kernel_rfl) fun _ _ G2 => ?_
  intro S2 t2
  refine V.cond (b := p1) (iN hp1 (iOT (iNT iDF) (iNT iDF))) (iN hp1 (iOF (iNF iDT) (iNF iDT))) (by kernel_rfl) (fun q1 => ?_) (fun q2 => ?_)
  · skip
    have hNR : ¬ (Fr.FrB a_P_Sign a_P_Digits a_Q_Sign a_Q_Digits ∧ Fr.FrB b_P_Sign b_P_Digits b_Q_Sign b_Q_Digits) := by rintro ⟨h1, h2⟩; rcases q1 with h | h; exact h h1; exact h h2
    refine V.go [.k (ag (DFrac.mk (DBig.mk 0 ⟨[], {}⟩) (DBig.mk 0 ⟨[], {}⟩))),
      .st 2 (fun _ => .blk ((G1 2).b) (ca (DFrac.mk (DBig.mk 0 ⟨[], {}⟩) (DBig.mk 0 ⟨[], {}⟩))) 33),
      .k (iv 1)] (fun _ _ => by kernel_rfl) fun _ _ G3 => ?_
    intro S3 t3
    refine V.nilF (α := Int) ?_
    refine V.nilF (α := Int) ?_
    have e1 : ([] : List Int) = Fr.rD (Fr.FrB a_P_Sign a_P_Digits a_Q_Sign a_Q_Digits ∧ Fr.FrB b_P_Sign b_P_Digits b_Q_Sign b_Q_Digits) ((Fr.fq a_P_Sign a_P_Digits a_Q_Digits) + (Fr.fq b_P_Sign b_P_Digits b_Q_Digits)) := by
      exact (Fr.Fz.no hNR ((Fr.fq a_P_Sign a_P_Digits a_Q_Digits) + (Fr.fq b_P_Sign b_P_Digits b_Q_Digits))).2.1
    rw [← e1]
    have e3 : ([] : List Int) = Fr.rE (Fr.FrB a_P_Sign a_P_Digits a_Q_Sign a_Q_Digits ∧ Fr.FrB b_P_Sign b_P_Digits b_Q_Sign b_Q_Digits) ((Fr.fq a_P_Sign a_P_Digits a_Q_Digits) + (Fr.fq b_P_Sign b_P_Digits b_Q_Digits)) := by
      exact (Fr.Fz.no hNR ((Fr.fq a_P_Sign a_P_Digits a_Q_Digits) + (Fr.fq b_P_Sign b_P_Digits b_Q_Digits))).2.2.2
    rw [← e3]
    have e0 : (0 : Int) = Fr.rS (Fr.FrB a_P_Sign a_P_Digits a_Q_Sign a_Q_Digits ∧ Fr.FrB b_P_Sign b_P_Digits b_Q_Sign b_Q_Digits) ((Fr.fq a_P_Sign a_P_Digits a_Q_Digits) + (Fr.fq b_P_Sign b_P_Digits b_Q_Digits)) := by
      exact (Fr.Fz.no hNR ((Fr.fq a_P_Sign a_P_Digits a_Q_Digits) + (Fr.fq b_P_Sign b_P_Digits b_Q_Digits))).1
    have e2 : (0 : Int) = Fr.rT (Fr.FrB a_P_Sign a_P_Digits a_Q_Sign a_Q_Digits ∧ Fr.FrB b_P_Sign b_P_Digits b_Q_Sign b_Q_Digits) := by
      exact (Fr.Fz.no hNR ((Fr.fq a_P_Sign a_P_Digits a_Q_Digits) + (Fr.fq b_P_Sign b_P_Digits b_Q_Digits))).2.2.1
    have e4 : (1 : Int) = if ¬ (Fr.FrB a_P_Sign a_P_Digits a_Q_Sign a_Q_Digits ∧ Fr.FrB b_P_Sign b_P_Digits b_Q_Sign b_Q_Digits) then (1 : Int) else 0 := by
      exact (if_pos hNR).symm
    exact V.ret [2, 0] [{}, {}] [fun _ => {}, fun _ => {}] [] [4, 5] [] (.tuple #[ag (DFrac.mk (DBig.mk 0 ⟨([] : List Int), {}⟩) (DBig.mk 0 ⟨([] : List Int), {}⟩)), iv 1]) (fun _ _ => by kernel_rfl) (fun _ _ => (Eq.trans (by kernel_rfl) (cong3 (fun (x0 : Int) (x2 : Int) (x4 : Int) => (.tuple #[.agg #[iv x0, SV.v ({}), iv x2, SV.v ({})], iv x4] : Value)) e0 e2 e4)).trans (by kernel_rfl)) (fun _ _ => trivial)
  · skip
    have hRR : Fr.FrB a_P_Sign a_P_Digits a_Q_Sign a_Q_Digits ∧ Fr.FrB b_P_Sign b_P_Digits b_Q_Sign b_Q_Digits := by first | exact q2 | exact ⟨Decidable.not_not.1 (q2).1, Decidable.not_not.1 (q2).2⟩
    have fa := Fr.FrB.z hRR.1; have fb := Fr.FrB.z hRR.2
    refine nm (Bg.oS (Bg.RtB a_P_Sign a_P_Digits ∧ Bg.RtB b_Q_Sign b_Q_Digits) (Bg.zv a_P_Sign a_P_Digits * Bg.zv b_Q_Sign b_Q_Digits) : Int) fun n1 hn1 => ?_
    refine nm (Bg.oD (Bg.RtB a_P_Sign a_P_Digits ∧ Bg.RtB b_Q_Sign b_Q_Digits) (Bg.zv a_P_Sign a_P_Digits * Bg.zv b_Q_Sign b_Q_Digits) : List Int) fun l1 hl1 => ?_
    have hl1n := congrArg List.length hl1
    refine nm (Bg.oS (Bg.RtB b_P_Sign b_P_Digits ∧ Bg.RtB a_Q_Sign a_Q_Digits) (Bg.zv b_P_Sign b_P_Digits * Bg.zv a_Q_Sign a_Q_Digits) : Int) fun n2 hn2 => ?_
    refine nm (Bg.oD (Bg.RtB b_P_Sign b_P_Digits ∧ Bg.RtB a_Q_Sign a_Q_Digits) (Bg.zv b_P_Sign b_P_Digits * Bg.zv a_Q_Sign a_Q_Digits) : List Int) fun l2 hl2 => ?_
    have hl2n := congrArg List.length hl2
    refine nm (Bg.oS (Bg.RtB n1 l1 ∧ Bg.RtB n2 l2) (Bg.zv n1 l1 + Bg.zv n2 l2) : Int) fun n3 hn3 => ?_
    refine nm (Bg.oD (Bg.RtB n1 l1 ∧ Bg.RtB n2 l2) (Bg.zv n1 l1 + Bg.zv n2 l2) : List Int) fun l3 hl3 => ?_
    have hl3n := congrArg List.length hl3
    refine nm (if (Bg.RtB n1 l1 ∧ Bg.RtB n2 l2) then (0 : Int) else 1 : Int) fun n4 hn4 => ?_
    obtain ⟨z4, z4l⟩ := Fr.Bz.mul fa.p fb.q hn1 hl1
    obtain ⟨z9, z9l⟩ := Fr.Bz.mul fb.p fa.q hn2 hl2
    obtain ⟨zA, zAl⟩ := Fr.Bz.add z4 z9 hn3 hl3
    refine V.reg [.k (pp ((G1 0).b) 0),
      .ld 0 0 true (fun _ => Dat.cells (DBig.mk a_P_Sign ⟨a_P_Digits, a_P_Digitss⟩)),
      .k (pp ((G1 1).b) 2),
      .ld 1 2 true (fun _ => Dat.cells (DBig.mk b_Q_Sign ⟨b_Q_Digits, b_Q_Digitss⟩)),
      .ct g0 4 39 false [] [] [(kf false (.f 0) a_P_Digits (fun _ => a_P_Digitss)).a, (kf false (.f 3) b_Q_Digits (fun _ => b_Q_Digitss)).a] (fun _ G => times_ctv a_P_Sign a_P_Digits a_P_Digitss b_Q_Sign b_Q_Digits b_Q_Digitss (by omega) (by omega) n1 hn1 l1 hl1),
      .k (pp ((G1 1).b) 0),
      .ld 1 0 true (fun _ => Dat.cells (DBig.mk b_P_Sign ⟨b_P_Digits, b_P_Digitss⟩)),
      .k (pp ((G1 0).b) 2),
      .ld 0 2 true (fun _ => Dat.cells (DBig.mk a_Q_Sign ⟨a_Q_Digits, a_Q_Digitss⟩)),
      .ct g0 9 39 false [] [] [(kf false (.f 2) b_P_Digits (fun _ => b_P_Digitss)).a, (kf false (.f 1) a_Q_Digits (fun _ => a_Q_Digitss)).a] (fun _ G => times_ctv b_P_Sign b_P_Digits b_P_Digitss a_Q_Sign a_Q_Digits a_Q_Digitss (by omega) (by omega) n2 hn2 l2 hl2),
      .ct g0 10 42 false [] [] [(kf true (.g 4 0) l1 (fun G => (G 4).ss 0)).a, (kf true (.g 9 0) l2 (fun G => (G 9).ss 0)).a] (fun _ G => Add_ctv n1 l1 ((G 4).ss 0) n2 l2 ((G 9).ss 0) (by omega) (by omega) n3 hn3 l3 hl3 n4 hn4),
      .v fun G => .tuple #[ag (DBig.mk n3 ⟨l3, (G 10).ss 0⟩), iv n4],
      .v fun G => ag (DBig.mk n3 ⟨l3, (G 10).ss 0⟩),
      .k (iv n4),
      .nb 14 3 (fun b => pp b 0) 31 (fun _ => ca (DBig.mk 0 ⟨[], {}⟩)),
      .st 3 (fun G => .blk ((G 14).b) (ca (DBig.mk n3 ⟨l3, (G 10).ss 0⟩)) 31),
      .k (iv n4)] (fun _ _ => by kernel_rfl) fun _ _ G4 kw4 => ?_
    intro S4 t4
    obtain ⟨⟨kl5, -⟩, ⟨kl6, -⟩, ⟨kl7, -⟩, -⟩ : Lq l1 (((G4 4).ss 0).v) ∧ Lq l2 (((G4 9).ss 0).v) ∧ Lq l3 (((G4 10).ss 0).v) ∧ True := kn kw4 (by kernel_rfl)
    clear kw4
    refine nm (Bg.oS (Bg.RtB a_Q_Sign a_Q_Digits ∧ Bg.RtB b_Q_Sign b_Q_Digits) (Bg.zv a_Q_Sign a_Q_Digits * Bg.zv b_Q_Sign b_Q_Digits) : Int) fun n5 hn5 => ?_
    refine nm (Bg.oD (Bg.RtB a_Q_Sign a_Q_Digits ∧ Bg.RtB b_Q_Sign b_Q_Digits) (Bg.zv a_Q_Sign a_Q_Digits * Bg.zv b_Q_Sign b_Q_Digits) : List Int) fun l4 hl4 => ?_
    have hl4n := congrArg List.length hl4
    refine nm (Fr.rS ((Bg.RtB n3 l3 ∧ Bg.RtB n5 l4) ∧ n5 ≠ 0) (Rat.divInt (Bg.zv n3 l3) (Bg.zv n5 l4)) : Int) fun n6 hn6 => ?_
    refine nm (Fr.rD ((Bg.RtB n3 l3 ∧ Bg.RtB n5 l4) ∧ n5 ≠ 0) (Rat.divInt (Bg.zv n3 l3) (Bg.zv n5 l4)) : List Int) fun l5 hl5 => ?_
    have hl5n := congrArg List.length hl5
    refine nm (Fr.rT ((Bg.RtB n3 l3 ∧ Bg.RtB n5 l4) ∧ n5 ≠ 0) : Int) fun n7 hn7 => ?_
    refine nm (Fr.rE ((Bg.RtB n3 l3 ∧ Bg.RtB n5 l4) ∧ n5 ≠ 0) (Rat.divInt (Bg.zv n3 l3) (Bg.zv n5 l4)) : List Int) fun l6 hl6 => ?_
    have hl6n := congrArg List.length hl6
    refine nm (if ¬ (Bg.RtB n3 l3 ∧ Bg.RtB n5 l4) then (1 : Int) else if n5 = 0 then 15 else 0 : Int) fun n8 hn8 => ?_
    obtain ⟨z5, z5l⟩ := Fr.Bz.mul fa.q fb.q hn5 hl4
    have hy0 : ((((Fr.fq a_P_Sign a_P_Digits a_Q_Digits)).den : Int) * (((Fr.fq b_P_Sign b_P_Digits b_Q_Digits)).den : Int)) ≠ 0 := Int.mul_ne_zero fa.den fb.den
    have zf := Fr.new_is zA z5 hy0 hn6 hl5 hn7 hl6
    have hEr : n8 = 0 := by rw [hn8, if_neg (fun h => h ⟨zA.rt, z5.rt⟩), if_neg (z5.ne.2 hy0)]
    have heq := Fr.add_is (Fr.fq a_P_Sign a_P_Digits a_Q_Digits) (Fr.fq b_P_Sign b_P_Digits b_Q_Digits)
    refine V.reg [.ld 3 0 true (fun _ => Dat.cells (DBig.mk n3 ⟨l3, (G4 10).ss 0⟩)),
      .k (pp ((G1 0).b) 2),
      .ld 0 2 true (fun _ => Dat.cells (DBig.mk a_Q_Sign ⟨a_Q_Digits, a_Q_Digitss⟩)),
      .k (pp ((G1 1).b) 2),
      .ld 1 2 true (fun _ => Dat.cells (DBig.mk b_Q_Sign ⟨b_Q_Digits, b_Q_Digitss⟩)),
      .ct g0 5 39 false [] [] [(kf false (.f 1) a_Q_Digits (fun _ => a_Q_Digitss)).a, (kf false (.f 3) b_Q_Digits (fun _ => b_Q_Digitss)).a] (fun _ G => times_ctv a_Q_Sign a_Q_Digits a_Q_Digitss b_Q_Sign b_Q_Digits b_Q_Digitss (by omega) (by omega) n5 hn5 l4 hl4),
      .ct g0 6 38 false [] [] [(kf true (.f 6) l3 (fun _ => (G4 10).ss 0)).a, (kf true (.g 5 0) l4 (fun G => (G 5).ss 0)).a] (fun _ G => new_ctv n3 l3 ((G4 10).ss 0) n5 l4 ((G 5).ss 0) (by omega) (by omega) n6 hn6 l5 hl5 n7 hn7 l6 hl6 n8 hn8),
      .v fun G => ag (DFrac.mk (DBig.mk n6 ⟨l5, (G 6).ss 0⟩) (DBig.mk n7 ⟨l6, (G 6).ss 1⟩)),
      .k (iv n8),
      .st 2 (fun G => .blk ((G1 2).b) (ca (DFrac.mk (DBig.mk n6 ⟨l5, (G 6).ss 0⟩) (DBig.mk n7 ⟨l6, (G 6).ss 1⟩))) 33),
      .k (iv n8)] (fun _ _ => by kernel_rfl) fun _ _ G5 kw5 => ?_
    intro S5 t5
    obtain ⟨⟨kl8, -⟩, ⟨kl9, -⟩, ⟨kl10, -⟩, -⟩ : Lq l4 (((G5 5).ss 0).v) ∧ Lq l5 (((G5 6).ss 0).v) ∧ Lq l6 (((G5 6).ss 1).v) ∧ True := kn kw5 (by kernel_rfl)
    clear kw5
    have e1 : l5 = Fr.rD (Fr.FrB a_P_Sign a_P_Digits a_Q_Sign a_Q_Digits ∧ Fr.FrB b_P_Sign b_P_Digits b_Q_Sign b_Q_Digits) ((Fr.fq a_P_Sign a_P_Digits a_Q_Digits) + (Fr.fq b_P_Sign b_P_Digits b_Q_Digits)) := by
      exact (Fr.Fz.ret zf hRR (heq)).2.1
    subst e1
    have e3 : l6 = Fr.rE (Fr.FrB a_P_Sign a_P_Digits a_Q_Sign a_Q_Digits ∧ Fr.FrB b_P_Sign b_P_Digits b_Q_Sign b_Q_Digits) ((Fr.fq a_P_Sign a_P_Digits a_Q_Digits) + (Fr.fq b_P_Sign b_P_Digits b_Q_Digits)) := by
      exact (Fr.Fz.ret zf hRR (heq)).2.2.2
    subst e3
    have e0 : n6 = Fr.rS (Fr.FrB a_P_Sign a_P_Digits a_Q_Sign a_Q_Digits ∧ Fr.FrB b_P_Sign b_P_Digits b_Q_Sign b_Q_Digits) ((Fr.fq a_P_Sign a_P_Digits a_Q_Digits) + (Fr.fq b_P_Sign b_P_Digits b_Q_Digits)) := by
      exact (Fr.Fz.ret zf hRR (heq)).1
    have e2 : n7 = Fr.rT (Fr.FrB a_P_Sign a_P_Digits a_Q_Sign a_Q_Digits ∧ Fr.FrB b_P_Sign b_P_Digits b_Q_Sign b_Q_Digits) := by
      exact (Fr.Fz.ret zf hRR (heq)).2.2.1
    have e4 : n8 = if ¬ (Fr.FrB a_P_Sign a_P_Digits a_Q_Sign a_Q_Digits ∧ Fr.FrB b_P_Sign b_P_Digits b_Q_Sign b_Q_Digits) then (1 : Int) else 0 := by
      rw [if_neg (fun h => h hRR)]; exact hEr
    exact V.ret [2, 0] [(G5 6).ss 0, (G5 6).ss 1] [fun _ => {}, fun _ => {}] [] [8, 9] [] (.tuple #[ag (DFrac.mk (DBig.mk n6 ⟨(Fr.rD (Fr.FrB a_P_Sign a_P_Digits a_Q_Sign a_Q_Digits ∧ Fr.FrB b_P_Sign b_P_Digits b_Q_Sign b_Q_Digits) ((Fr.fq a_P_Sign a_P_Digits a_Q_Digits) + (Fr.fq b_P_Sign b_P_Digits b_Q_Digits))), (G5 6).ss 0⟩) (DBig.mk n7 ⟨(Fr.rE (Fr.FrB a_P_Sign a_P_Digits a_Q_Sign a_Q_Digits ∧ Fr.FrB b_P_Sign b_P_Digits b_Q_Sign b_Q_Digits) ((Fr.fq a_P_Sign a_P_Digits a_Q_Digits) + (Fr.fq b_P_Sign b_P_Digits b_Q_Digits))), (G5 6).ss 1⟩)), iv n8]) (fun _ _ => by kernel_rfl) (fun _ _ => (Eq.trans (by kernel_rfl) (cong3 (fun (x0 : Int) (x2 : Int) (x4 : Int) => (.tuple #[.agg #[iv x0, ((G5 6).ss 0).v, iv x2, ((G5 6).ss 1).v], iv x4] : Value)) e0 e2 e4)).trans (by kernel_rfl)) (fun _ _ => trivial)
theorem fadd_ctv (a_P_Sign : Int) (a_P_Digits : List Int) (a_P_Digitss : SV) (a_Q_Sign : Int) (a_Q_Digits : List Int) (a_Q_Digitss : SV) (b_P_Sign : Int) (b_P_Digits : List Int) (b_P_Digitss : SV) (b_Q_Sign : Int) (b_Q_Digits : List Int) (b_Q_Digitss : SV) (haP : a_P_Digits.length ≤ 17179869184) (haQ : a_Q_Digits.length ≤ 17179869184) (hbP : b_P_Digits.length ≤ 17179869184) (hbQ : b_Q_Digits.length ≤ 17179869184) (rv0 : Int) (erv0 : rv0 = Fr.rS (Fr.FrB a_P_Sign a_P_Digits a_Q_Sign a_Q_Digits ∧ Fr.FrB b_P_Sign b_P_Digits b_Q_Sign b_Q_Digits) ((Fr.fq a_P_Sign a_P_Digits a_Q_Digits) + (Fr.fq b_P_Sign b_P_Digits b_Q_Digits))) (rv1 : List Int) (erv1 : rv1 = Fr.rD (Fr.FrB a_P_Sign a_P_Digits a_Q_Sign a_Q_Digits ∧ Fr.FrB b_P_Sign b_P_Digits b_Q_Sign b_Q_Digits) ((Fr.fq a_P_Sign a_P_Digits a_Q_Digits) + (Fr.fq b_P_Sign b_P_Digits b_Q_Digits))) (rv2 : Int) (erv2 : rv2 = Fr.rT (Fr.FrB a_P_Sign a_P_Digits a_Q_Sign a_Q_Digits ∧ Fr.FrB b_P_Sign b_P_Digits b_Q_Sign b_Q_Digits)) (rv3 : List Int) (erv3 : rv3 = Fr.rE (Fr.FrB a_P_Sign a_P_Digits a_Q_Sign a_Q_Digits ∧ Fr.FrB b_P_Sign b_P_Digits b_Q_Sign b_Q_Digits) ((Fr.fq a_P_Sign a_P_Digits a_Q_Digits) + (Fr.fq b_P_Sign b_P_Digits b_Q_Digits))) (rv4 : Int) (erv4 : rv4 = if ¬ (Fr.FrB a_P_Sign a_P_Digits a_Q_Sign a_Q_Digits ∧ Fr.FrB b_P_Sign b_P_Digits b_Q_Sign b_Q_Digits) then (1 : Int) else 0) :
    Ct Try.prog 14 #[ag (DFrac.mk (DBig.mk a_P_Sign ⟨a_P_Digits, a_P_Digitss⟩) (DBig.mk a_Q_Sign ⟨a_Q_Digits, a_Q_Digitss⟩)), ag (DFrac.mk (DBig.mk b_P_Sign ⟨b_P_Digits, b_P_Digitss⟩) (DBig.mk b_Q_Sign ⟨b_Q_Digits, b_Q_Digitss⟩))] [fs true a_P_Digits a_P_Digitss, fs true a_Q_Digits a_Q_Digitss, fs true b_P_Digits b_P_Digitss, fs true b_Q_Digits b_Q_Digitss] [] (fun g => .tuple #[ag (DFrac.mk (DBig.mk rv0 ⟨rv1, (g.ss 0)⟩) (DBig.mk rv2 ⟨rv3, (g.ss 1)⟩)), iv rv4]) (fun g => [fs true rv1 (g.ss 0), fs true rv3 (g.ss 1)]) (fun g => []) (fun g => []) := by
  subst erv0 erv1 erv2 erv3 erv4; exact fadd_ct a_P_Sign a_P_Digits a_P_Digitss a_Q_Sign a_Q_Digits a_Q_Digitss b_P_Sign b_P_Digits b_P_Digitss b_Q_Sign b_Q_Digits b_Q_Digitss haP haQ hbP hbQ

set_option maxRecDepth 10000 in
theorem fmul_ct (a_P_Sign : Int) (a_P_Digits : List Int) (a_P_Digitss : SV) (a_Q_Sign : Int) (a_Q_Digits : List Int) (a_Q_Digitss : SV) (b_P_Sign : Int) (b_P_Digits : List Int) (b_P_Digitss : SV) (b_Q_Sign : Int) (b_Q_Digits : List Int) (b_Q_Digitss : SV) (haP : a_P_Digits.length ≤ 17179869184) (haQ : a_Q_Digits.length ≤ 17179869184) (hbP : b_P_Digits.length ≤ 17179869184) (hbQ : b_Q_Digits.length ≤ 17179869184) :
    Ct Try.prog 11 #[ag (DFrac.mk (DBig.mk a_P_Sign ⟨a_P_Digits, a_P_Digitss⟩) (DBig.mk a_Q_Sign ⟨a_Q_Digits, a_Q_Digitss⟩)), ag (DFrac.mk (DBig.mk b_P_Sign ⟨b_P_Digits, b_P_Digitss⟩) (DBig.mk b_Q_Sign ⟨b_Q_Digits, b_Q_Digitss⟩))] [fs true a_P_Digits a_P_Digitss, fs true a_Q_Digits a_Q_Digitss, fs true b_P_Digits b_P_Digitss, fs true b_Q_Digits b_Q_Digitss] [] (fun g => .tuple #[ag (DFrac.mk (DBig.mk (Fr.rS (Fr.FrB a_P_Sign a_P_Digits a_Q_Sign a_Q_Digits ∧ Fr.FrB b_P_Sign b_P_Digits b_Q_Sign b_Q_Digits) ((Fr.fq a_P_Sign a_P_Digits a_Q_Digits) * (Fr.fq b_P_Sign b_P_Digits b_Q_Digits))) ⟨Fr.rD (Fr.FrB a_P_Sign a_P_Digits a_Q_Sign a_Q_Digits ∧ Fr.FrB b_P_Sign b_P_Digits b_Q_Sign b_Q_Digits) ((Fr.fq a_P_Sign a_P_Digits a_Q_Digits) * (Fr.fq b_P_Sign b_P_Digits b_Q_Digits)), (g.ss 0)⟩) (DBig.mk (Fr.rT (Fr.FrB a_P_Sign a_P_Digits a_Q_Sign a_Q_Digits ∧ Fr.FrB b_P_Sign b_P_Digits b_Q_Sign b_Q_Digits)) ⟨Fr.rE (Fr.FrB a_P_Sign a_P_Digits a_Q_Sign a_Q_Digits ∧ Fr.FrB b_P_Sign b_P_Digits b_Q_Sign b_Q_Digits) ((Fr.fq a_P_Sign a_P_Digits a_Q_Digits) * (Fr.fq b_P_Sign b_P_Digits b_Q_Digits)), (g.ss 1)⟩)), iv (if ¬ (Fr.FrB a_P_Sign a_P_Digits a_Q_Sign a_Q_Digits ∧ Fr.FrB b_P_Sign b_P_Digits b_Q_Sign b_Q_Digits) then (1 : Int) else 0)]) (fun g => [fs true (Fr.rD (Fr.FrB a_P_Sign a_P_Digits a_Q_Sign a_Q_Digits ∧ Fr.FrB b_P_Sign b_P_Digits b_Q_Sign b_Q_Digits) ((Fr.fq a_P_Sign a_P_Digits a_Q_Digits) * (Fr.fq b_P_Sign b_P_Digits b_Q_Digits))) (g.ss 0), fs true (Fr.rE (Fr.FrB a_P_Sign a_P_Digits a_Q_Sign a_Q_Digits ∧ Fr.FrB b_P_Sign b_P_Digits b_Q_Sign b_Q_Digits) ((Fr.fq a_P_Sign a_P_Digits a_Q_Digits) * (Fr.fq b_P_Sign b_P_Digits b_Q_Digits))) (g.ss 1)]) (fun g => []) (fun g => []) := by
  refine V.fn mo Try.func11 28 3 (by kernel_rfl) fun w H ε k0 => ?_
  obtain ⟨⟨kl1, -⟩, ⟨kl2, -⟩, ⟨kl3, -⟩, ⟨kl4, -⟩, -⟩ : Lq a_P_Digits a_P_Digitss.v ∧ Lq a_Q_Digits a_Q_Digitss.v ∧ Lq b_P_Digits b_P_Digitss.v ∧ Lq b_Q_Digits b_Q_Digitss.v ∧ True := kn k0 (by kernel_rfl)
  clear k0
  refine V.go [.nb 0 0 (fun b => pp b 0) 33 (fun _ => ca (DFrac.mk (DBig.mk a_P_Sign ⟨a_P_Digits, a_P_Digitss⟩) (DBig.mk a_Q_Sign ⟨a_Q_Digits, a_Q_Digitss⟩))),
    .nb 1 1 (fun b => pp b 0) 33 (fun _ => ca (DFrac.mk (DBig.mk b_P_Sign ⟨b_P_Digits, b_P_Digitss⟩) (DBig.mk b_Q_Sign ⟨b_Q_Digits, b_Q_Digitss⟩))),
    .nb 2 2 (fun b => pp b 0) 33 (fun _ => ca (DFrac.mk (DBig.mk 0 ⟨[], {}⟩) (DBig.mk 0 ⟨[], {}⟩))),
    .k (iv 0)] (fun _ _ => by kernel_rfl) fun _ _ G1 => ?_
  intro S1 t1
  refine nm ((!(decide (Fr.FrB a_P_Sign a_P_Digits a_Q_Sign a_Q_Digits))) || (!(decide (Fr.FrB b_P_Sign b_P_Digits b_Q_Sign b_Q_Digits))) : Bool) fun p1 hp1 => ?_
  refine V.go [.ld 0 0 true (fun _ => Dat.cells (DFrac.mk (DBig.mk a_P_Sign ⟨a_P_Digits, a_P_Digitss⟩) (DBig.mk a_Q_Sign ⟨a_Q_Digits, a_Q_Digitss⟩))),
    .cp g0 1 19 [(kf false (.f 0) a_P_Digits (fun _ => a_P_Digitss)).a, (kf false (.f 1) a_Q_Digits (fun _ => a_Q_Digitss)).a] (fun _ G => right_ct a_P_Sign a_P_Digits a_P_Digitss a_Q_Sign a_Q_Digits a_Q_Digitss (by omega) (by omega)),
    .k (bv (!(decide (Fr.FrB a_P_Sign a_P_Digits a_Q_Sign a_Q_Digits)))),
    .k (bv (!(decide (Fr.FrB a_P_Sign a_P_Digits a_Q_Sign a_Q_Digits)))),
    .ld 1 0 true (fun _ => Dat.cells (DFrac.mk (DBig.mk b_P_Sign ⟨b_P_Digits, b_P_Digitss⟩) (DBig.mk b_Q_Sign ⟨b_Q_Digits, b_Q_Digitss⟩))),
    .cp (gF (b := !(decide (Fr.FrB a_P_Sign a_P_Digits a_Q_Sign a_Q_Digits))) (iNF iDT)) 5 19 [(kf false (.f 2) b_P_Digits (fun _ => b_P_Digitss)).a, (kf false (.f 3) b_Q_Digits (fun _ => b_Q_Digitss)).a] (fun hg G => right_ct b_P_Sign b_P_Digits b_P_Digitss b_Q_Sign b_Q_Digits b_Q_Digitss (by omega) (by omega)),
    .k (bv (!(decide (Fr.FrB b_P_Sign b_P_Digits b_Q_Sign b_Q_Digits)))),
    .orn g0 false (!(decide (Fr.FrB a_P_Sign a_P_Digits a_Q_Sign a_Q_Digits))) (!(decide (Fr.FrB b_P_Sign b_P_Digits b_Q_Sign b_Q_Digits))) p1 hp1] (fun _ _ => by kernel_rfl) fun _ _ G2 => ?_
  intro S2 t2
  refine V.cond (b := p1) (iN hp1 (iOT (iNT iDF) (iNT iDF))) (iN hp1 (iOF (iNF iDT) (iNF iDT))) (by kernel_rfl) (fun q1 => ?_) (fun q2 => ?_)
  · skip
    have hNR : ¬ (Fr.FrB a_P_Sign a_P_Digits a_Q_Sign a_Q_Digits ∧ Fr.FrB b_P_Sign b_P_Digits b_Q_Sign b_Q_Digits) := by rintro ⟨h1, h2⟩; rcases q1 with h | h; exact h h1; exact h h2
    refine V.go [.k (ag (DFrac.mk (DBig.mk 0 ⟨[], {}⟩) (DBig.mk 0 ⟨[], {}⟩))),
      .st 2 (fun _ => .blk ((G1 2).b) (ca (DFrac.mk (DBig.mk 0 ⟨[], {}⟩) (DBig.mk 0 ⟨[], {}⟩))) 33),
      .k (iv 1)] (fun _ _ => by kernel_rfl) fun _ _ G3 => ?_
    intro S3 t3
    refine V.nilF (α := Int) ?_
    refine V.nilF (α := Int) ?_
    have e1 : ([] : List Int) = Fr.rD (Fr.FrB a_P_Sign a_P_Digits a_Q_Sign a_Q_Digits ∧ Fr.FrB b_P_Sign b_P_Digits b_Q_Sign b_Q_Digits) ((Fr.fq a_P_Sign a_P_Digits a_Q_Digits) * (Fr.fq b_P_Sign b_P_Digits b_Q_Digits)) := by
      exact (Fr.Fz.no hNR ((Fr.fq a_P_Sign a_P_Digits a_Q_Digits) * (Fr.fq b_P_Sign b_P_Digits b_Q_Digits))).2.1
    rw [← e1]
    have e3 : ([] : List Int) = Fr.rE (Fr.FrB a_P_Sign a_P_Digits a_Q_Sign a_Q_Digits ∧ Fr.FrB b_P_Sign b_P_Digits b_Q_Sign b_Q_Digits) ((Fr.fq a_P_Sign a_P_Digits a_Q_Digits) * (Fr.fq b_P_Sign b_P_Digits b_Q_Digits)) := by
      exact (Fr.Fz.no hNR ((Fr.fq a_P_Sign a_P_Digits a_Q_Digits) * (Fr.fq b_P_Sign b_P_Digits b_Q_Digits))).2.2.2
    rw [← e3]
    have e0 : (0 : Int) = Fr.rS (Fr.FrB a_P_Sign a_P_Digits a_Q_Sign a_Q_Digits ∧ Fr.FrB b_P_Sign b_P_Digits b_Q_Sign b_Q_Digits) ((Fr.fq a_P_Sign a_P_Digits a_Q_Digits) * (Fr.fq b_P_Sign b_P_Digits b_Q_Digits)) := by
      exact (Fr.Fz.no hNR ((Fr.fq a_P_Sign a_P_Digits a_Q_Digits) * (Fr.fq b_P_Sign b_P_Digits b_Q_Digits))).1
    have e2 : (0 : Int) = Fr.rT (Fr.FrB a_P_Sign a_P_Digits a_Q_Sign a_Q_Digits ∧ Fr.FrB b_P_Sign b_P_Digits b_Q_Sign b_Q_Digits) := by
      exact (Fr.Fz.no hNR ((Fr.fq a_P_Sign a_P_Digits a_Q_Digits) * (Fr.fq b_P_Sign b_P_Digits b_Q_Digits))).2.2.1
    have e4 : (1 : Int) = if ¬ (Fr.FrB a_P_Sign a_P_Digits a_Q_Sign a_Q_Digits ∧ Fr.FrB b_P_Sign b_P_Digits b_Q_Sign b_Q_Digits) then (1 : Int) else 0 := by
      exact (if_pos hNR).symm
    exact V.ret [2, 0] [{}, {}] [fun _ => {}, fun _ => {}] [] [4, 5] [] (.tuple #[ag (DFrac.mk (DBig.mk 0 ⟨([] : List Int), {}⟩) (DBig.mk 0 ⟨([] : List Int), {}⟩)), iv 1]) (fun _ _ => by kernel_rfl) (fun _ _ => (Eq.trans (by kernel_rfl) (cong3 (fun (x0 : Int) (x2 : Int) (x4 : Int) => (.tuple #[.agg #[iv x0, SV.v ({}), iv x2, SV.v ({})], iv x4] : Value)) e0 e2 e4)).trans (by kernel_rfl)) (fun _ _ => trivial)
  · skip
    have hRR : Fr.FrB a_P_Sign a_P_Digits a_Q_Sign a_Q_Digits ∧ Fr.FrB b_P_Sign b_P_Digits b_Q_Sign b_Q_Digits := by first | exact q2 | exact ⟨Decidable.not_not.1 (q2).1, Decidable.not_not.1 (q2).2⟩
    have fa := Fr.FrB.z hRR.1; have fb := Fr.FrB.z hRR.2
    refine nm (Bg.oS (Bg.RtB a_P_Sign a_P_Digits ∧ Bg.RtB b_P_Sign b_P_Digits) (Bg.zv a_P_Sign a_P_Digits * Bg.zv b_P_Sign b_P_Digits) : Int) fun n1 hn1 => ?_
    refine nm (Bg.oD (Bg.RtB a_P_Sign a_P_Digits ∧ Bg.RtB b_P_Sign b_P_Digits) (Bg.zv a_P_Sign a_P_Digits * Bg.zv b_P_Sign b_P_Digits) : List Int) fun l1 hl1 => ?_
    have hl1n := congrArg List.length hl1
    refine nm (Bg.oS (Bg.RtB a_Q_Sign a_Q_Digits ∧ Bg.RtB b_Q_Sign b_Q_Digits) (Bg.zv a_Q_Sign a_Q_Digits * Bg.zv b_Q_Sign b_Q_Digits) : Int) fun n2 hn2 => ?_
    refine nm (Bg.oD (Bg.RtB a_Q_Sign a_Q_Digits ∧ Bg.RtB b_Q_Sign b_Q_Digits) (Bg.zv a_Q_Sign a_Q_Digits * Bg.zv b_Q_Sign b_Q_Digits) : List Int) fun l2 hl2 => ?_
    have hl2n := congrArg List.length hl2
    refine nm (Fr.rS ((Bg.RtB n1 l1 ∧ Bg.RtB n2 l2) ∧ n2 ≠ 0) (Rat.divInt (Bg.zv n1 l1) (Bg.zv n2 l2)) : Int) fun n3 hn3 => ?_
    refine nm (Fr.rD ((Bg.RtB n1 l1 ∧ Bg.RtB n2 l2) ∧ n2 ≠ 0) (Rat.divInt (Bg.zv n1 l1) (Bg.zv n2 l2)) : List Int) fun l3 hl3 => ?_
    have hl3n := congrArg List.length hl3
    refine nm (Fr.rT ((Bg.RtB n1 l1 ∧ Bg.RtB n2 l2) ∧ n2 ≠ 0) : Int) fun n4 hn4 => ?_
    refine nm (Fr.rE ((Bg.RtB n1 l1 ∧ Bg.RtB n2 l2) ∧ n2 ≠ 0) (Rat.divInt (Bg.zv n1 l1) (Bg.zv n2 l2)) : List Int) fun l4 hl4 => ?_
    have hl4n := congrArg List.length hl4
    refine nm (if ¬ (Bg.RtB n1 l1 ∧ Bg.RtB n2 l2) then (1 : Int) else if n2 = 0 then 15 else 0 : Int) fun n5 hn5 => ?_
    obtain ⟨z4, z4l⟩ := Fr.Bz.mul fa.p fb.p hn1 hl1
    obtain ⟨z9, z9l⟩ := Fr.Bz.mul fa.q fb.q hn2 hl2
    have hy0 : ((((Fr.fq a_P_Sign a_P_Digits a_Q_Digits)).den : Int) * (((Fr.fq b_P_Sign b_P_Digits b_Q_Digits)).den : Int)) ≠ 0 := Int.mul_ne_zero fa.den fb.den
    have zf := Fr.new_is z4 z9 hy0 hn3 hl3 hn4 hl4
    have hEr : n5 = 0 := by rw [hn5, if_neg (fun h => h ⟨z4.rt, z9.rt⟩), if_neg (z9.ne.2 hy0)]
    have heq := Fr.mul_is (Fr.fq a_P_Sign a_P_Digits a_Q_Digits) (Fr.fq b_P_Sign b_P_Digits b_Q_Digits)
    refine V.reg [.k (pp ((G1 0).b) 0),
      .ld 0 0 true (fun _ => Dat.cells (DBig.mk a_P_Sign ⟨a_P_Digits, a_P_Digitss⟩)),
      .k (pp ((G1 1).b) 0),
      .ld 1 0 true (fun _ => Dat.cells (DBig.mk b_P_Sign ⟨b_P_Digits, b_P_Digitss⟩)),
      .ct g0 4 39 false [] [] [(kf false (.f 0) a_P_Digits (fun _ => a_P_Digitss)).a, (kf false (.f 2) b_P_Digits (fun _ => b_P_Digitss)).a] (fun _ G => times_ctv a_P_Sign a_P_Digits a_P_Digitss b_P_Sign b_P_Digits b_P_Digitss (by omega) (by omega) n1 hn1 l1 hl1),
      .k (pp ((G1 0).b) 2),
      .ld 0 2 true (fun _ => Dat.cells (DBig.mk a_Q_Sign ⟨a_Q_Digits, a_Q_Digitss⟩)),
      .k (pp ((G1 1).b) 2),
      .ld 1 2 true (fun _ => Dat.cells (DBig.mk b_Q_Sign ⟨b_Q_Digits, b_Q_Digitss⟩)),
      .ct g0 9 39 false [] [] [(kf false (.f 1) a_Q_Digits (fun _ => a_Q_Digitss)).a, (kf false (.f 3) b_Q_Digits (fun _ => b_Q_Digitss)).a] (fun _ G => times_ctv a_Q_Sign a_Q_Digits a_Q_Digitss b_Q_Sign b_Q_Digits b_Q_Digitss (by omega) (by omega) n2 hn2 l2 hl2),
      .ct g0 10 38 false [] [] [(kf true (.g 4 0) l1 (fun G => (G 4).ss 0)).a, (kf true (.g 9 0) l2 (fun G => (G 9).ss 0)).a] (fun _ G => new_ctv n1 l1 ((G 4).ss 0) n2 l2 ((G 9).ss 0) (by omega) (by omega) n3 hn3 l3 hl3 n4 hn4 l4 hl4 n5 hn5),
      .v fun G => ag (DFrac.mk (DBig.mk n3 ⟨l3, (G 10).ss 0⟩) (DBig.mk n4 ⟨l4, (G 10).ss 1⟩)),
      .k (iv n5),
      .st 2 (fun G => .blk ((G1 2).b) (ca (DFrac.mk (DBig.mk n3 ⟨l3, (G 10).ss 0⟩) (DBig.mk n4 ⟨l4, (G 10).ss 1⟩))) 33),
      .k (iv n5)] (fun _ _ => by kernel_rfl) fun _ _ G4 kw4 => ?_
    intro S4 t4
    obtain ⟨⟨kl5, -⟩, ⟨kl6, -⟩, ⟨kl7, -⟩, ⟨kl8, -⟩, -⟩ : Lq l1 (((G4 4).ss 0).v) ∧ Lq l2 (((G4 9).ss 0).v) ∧ Lq l3 (((G4 10).ss 0).v) ∧ Lq l4 (((G4 10).ss 1).v) ∧ True := kn kw4 (by kernel_rfl)
    clear kw4
    have e1 : l3 = Fr.rD (Fr.FrB a_P_Sign a_P_Digits a_Q_Sign a_Q_Digits ∧ Fr.FrB b_P_Sign b_P_Digits b_Q_Sign b_Q_Digits) ((Fr.fq a_P_Sign a_P_Digits a_Q_Digits) * (Fr.fq b_P_Sign b_P_Digits b_Q_Digits)) := by
      exact (Fr.Fz.ret zf hRR (heq)).2.1
    subst e1
    have e3 : l4 = Fr.rE (Fr.FrB a_P_Sign a_P_Digits a_Q_Sign a_Q_Digits ∧ Fr.FrB b_P_Sign b_P_Digits b_Q_Sign b_Q_Digits) ((Fr.fq a_P_Sign a_P_Digits a_Q_Digits) * (Fr.fq b_P_Sign b_P_Digits b_Q_Digits)) := by
      exact (Fr.Fz.ret zf hRR (heq)).2.2.2
    subst e3
    have e0 : n3 = Fr.rS (Fr.FrB a_P_Sign a_P_Digits a_Q_Sign a_Q_Digits ∧ Fr.FrB b_P_Sign b_P_Digits b_Q_Sign b_Q_Digits) ((Fr.fq a_P_Sign a_P_Digits a_Q_Digits) * (Fr.fq b_P_Sign b_P_Digits b_Q_Digits)) := by
      exact (Fr.Fz.ret zf hRR (heq)).1
    have e2 : n4 = Fr.rT (Fr.FrB a_P_Sign a_P_Digits a_Q_Sign a_Q_Digits ∧ Fr.FrB b_P_Sign b_P_Digits b_Q_Sign b_Q_Digits) := by
      exact (Fr.Fz.ret zf hRR (heq)).2.2.1
    have e4 : n5 = if ¬ (Fr.FrB a_P_Sign a_P_Digits a_Q_Sign a_Q_Digits ∧ Fr.FrB b_P_Sign b_P_Digits b_Q_Sign b_Q_Digits) then (1 : Int) else 0 := by
      rw [if_neg (fun h => h hRR)]; exact hEr
    exact V.ret [2, 0] [(G4 10).ss 0, (G4 10).ss 1] [fun _ => {}, fun _ => {}] [] [6, 7] [] (.tuple #[ag (DFrac.mk (DBig.mk n3 ⟨(Fr.rD (Fr.FrB a_P_Sign a_P_Digits a_Q_Sign a_Q_Digits ∧ Fr.FrB b_P_Sign b_P_Digits b_Q_Sign b_Q_Digits) ((Fr.fq a_P_Sign a_P_Digits a_Q_Digits) * (Fr.fq b_P_Sign b_P_Digits b_Q_Digits))), (G4 10).ss 0⟩) (DBig.mk n4 ⟨(Fr.rE (Fr.FrB a_P_Sign a_P_Digits a_Q_Sign a_Q_Digits ∧ Fr.FrB b_P_Sign b_P_Digits b_Q_Sign b_Q_Digits) ((Fr.fq a_P_Sign a_P_Digits a_Q_Digits) * (Fr.fq b_P_Sign b_P_Digits b_Q_Digits))), (G4 10).ss 1⟩)), iv n5]) (fun _ _ => by kernel_rfl) (fun _ _ => (Eq.trans (by kernel_rfl) (cong3 (fun (x0 : Int) (x2 : Int) (x4 : Int) => (.tuple #[.agg #[iv x0, ((G4 10).ss 0).v, iv x2, ((G4 10).ss 1).v], iv x4] : Value)) e0 e2 e4)).trans (by kernel_rfl)) (fun _ _ => trivial)
theorem fmul_ctv (a_P_Sign : Int) (a_P_Digits : List Int) (a_P_Digitss : SV) (a_Q_Sign : Int) (a_Q_Digits : List Int) (a_Q_Digitss : SV) (b_P_Sign : Int) (b_P_Digits : List Int) (b_P_Digitss : SV) (b_Q_Sign : Int) (b_Q_Digits : List Int) (b_Q_Digitss : SV) (haP : a_P_Digits.length ≤ 17179869184) (haQ : a_Q_Digits.length ≤ 17179869184) (hbP : b_P_Digits.length ≤ 17179869184) (hbQ : b_Q_Digits.length ≤ 17179869184) (rv0 : Int) (erv0 : rv0 = Fr.rS (Fr.FrB a_P_Sign a_P_Digits a_Q_Sign a_Q_Digits ∧ Fr.FrB b_P_Sign b_P_Digits b_Q_Sign b_Q_Digits) ((Fr.fq a_P_Sign a_P_Digits a_Q_Digits) * (Fr.fq b_P_Sign b_P_Digits b_Q_Digits))) (rv1 : List Int) (erv1 : rv1 = Fr.rD (Fr.FrB a_P_Sign a_P_Digits a_Q_Sign a_Q_Digits ∧ Fr.FrB b_P_Sign b_P_Digits b_Q_Sign b_Q_Digits) ((Fr.fq a_P_Sign a_P_Digits a_Q_Digits) * (Fr.fq b_P_Sign b_P_Digits b_Q_Digits))) (rv2 : Int) (erv2 : rv2 = Fr.rT (Fr.FrB a_P_Sign a_P_Digits a_Q_Sign a_Q_Digits ∧ Fr.FrB b_P_Sign b_P_Digits b_Q_Sign b_Q_Digits)) (rv3 : List Int) (erv3 : rv3 = Fr.rE (Fr.FrB a_P_Sign a_P_Digits a_Q_Sign a_Q_Digits ∧ Fr.FrB b_P_Sign b_P_Digits b_Q_Sign b_Q_Digits) ((Fr.fq a_P_Sign a_P_Digits a_Q_Digits) * (Fr.fq b_P_Sign b_P_Digits b_Q_Digits))) (rv4 : Int) (erv4 : rv4 = if ¬ (Fr.FrB a_P_Sign a_P_Digits a_Q_Sign a_Q_Digits ∧ Fr.FrB b_P_Sign b_P_Digits b_Q_Sign b_Q_Digits) then (1 : Int) else 0) :
    Ct Try.prog 11 #[ag (DFrac.mk (DBig.mk a_P_Sign ⟨a_P_Digits, a_P_Digitss⟩) (DBig.mk a_Q_Sign ⟨a_Q_Digits, a_Q_Digitss⟩)), ag (DFrac.mk (DBig.mk b_P_Sign ⟨b_P_Digits, b_P_Digitss⟩) (DBig.mk b_Q_Sign ⟨b_Q_Digits, b_Q_Digitss⟩))] [fs true a_P_Digits a_P_Digitss, fs true a_Q_Digits a_Q_Digitss, fs true b_P_Digits b_P_Digitss, fs true b_Q_Digits b_Q_Digitss] [] (fun g => .tuple #[ag (DFrac.mk (DBig.mk rv0 ⟨rv1, (g.ss 0)⟩) (DBig.mk rv2 ⟨rv3, (g.ss 1)⟩)), iv rv4]) (fun g => [fs true rv1 (g.ss 0), fs true rv3 (g.ss 1)]) (fun g => []) (fun g => []) := by
  subst erv0 erv1 erv2 erv3 erv4; exact fmul_ct a_P_Sign a_P_Digits a_P_Digitss a_Q_Sign a_Q_Digits a_Q_Digitss b_P_Sign b_P_Digits b_P_Digitss b_Q_Sign b_Q_Digits b_Q_Digitss haP haQ hbP hbQ

set_option maxRecDepth 10000 in
theorem fsub_ct (a_P_Sign : Int) (a_P_Digits : List Int) (a_P_Digitss : SV) (a_Q_Sign : Int) (a_Q_Digits : List Int) (a_Q_Digitss : SV) (b_P_Sign : Int) (b_P_Digits : List Int) (b_P_Digitss : SV) (b_Q_Sign : Int) (b_Q_Digits : List Int) (b_Q_Digitss : SV) (haP : a_P_Digits.length ≤ 17179869184) (haQ : a_Q_Digits.length ≤ 17179869184) (hbP : b_P_Digits.length ≤ 17179869184) (hbQ : b_Q_Digits.length ≤ 17179869184) :
    Ct Try.prog 46 #[ag (DFrac.mk (DBig.mk a_P_Sign ⟨a_P_Digits, a_P_Digitss⟩) (DBig.mk a_Q_Sign ⟨a_Q_Digits, a_Q_Digitss⟩)), ag (DFrac.mk (DBig.mk b_P_Sign ⟨b_P_Digits, b_P_Digitss⟩) (DBig.mk b_Q_Sign ⟨b_Q_Digits, b_Q_Digitss⟩))] [fs true a_P_Digits a_P_Digitss, fs true a_Q_Digits a_Q_Digitss, fs true b_P_Digits b_P_Digitss, fs true b_Q_Digits b_Q_Digitss] [] (fun g => .tuple #[ag (DFrac.mk (DBig.mk (Fr.rS (Fr.FrB a_P_Sign a_P_Digits a_Q_Sign a_Q_Digits ∧ Fr.FrB b_P_Sign b_P_Digits b_Q_Sign b_Q_Digits) ((Fr.fq a_P_Sign a_P_Digits a_Q_Digits) - (Fr.fq b_P_Sign b_P_Digits b_Q_Digits))) ⟨Fr.rD (Fr.FrB a_P_Sign a_P_Digits a_Q_Sign a_Q_Digits ∧ Fr.FrB b_P_Sign b_P_Digits b_Q_Sign b_Q_Digits) ((Fr.fq a_P_Sign a_P_Digits a_Q_Digits) - (Fr.fq b_P_Sign b_P_Digits b_Q_Digits)), (g.ss 0)⟩) (DBig.mk (Fr.rT (Fr.FrB a_P_Sign a_P_Digits a_Q_Sign a_Q_Digits ∧ Fr.FrB b_P_Sign b_P_Digits b_Q_Sign b_Q_Digits)) ⟨Fr.rE (Fr.FrB a_P_Sign a_P_Digits a_Q_Sign a_Q_Digits ∧ Fr.FrB b_P_Sign b_P_Digits b_Q_Sign b_Q_Digits) ((Fr.fq a_P_Sign a_P_Digits a_Q_Digits) - (Fr.fq b_P_Sign b_P_Digits b_Q_Digits)), (g.ss 1)⟩)), iv (if ¬ (Fr.FrB a_P_Sign a_P_Digits a_Q_Sign a_Q_Digits ∧ Fr.FrB b_P_Sign b_P_Digits b_Q_Sign b_Q_Digits) then (1 : Int) else 0)]) (fun g => [fs true (Fr.rD (Fr.FrB a_P_Sign a_P_Digits a_Q_Sign a_Q_Digits ∧ Fr.FrB b_P_Sign b_P_Digits b_Q_Sign b_Q_Digits) ((Fr.fq a_P_Sign a_P_Digits a_Q_Digits) - (Fr.fq b_P_Sign b_P_Digits b_Q_Digits))) (g.ss 0), fs true (Fr.rE (Fr.FrB a_P_Sign a_P_Digits a_Q_Sign a_Q_Digits ∧ Fr.FrB b_P_Sign b_P_Digits b_Q_Sign b_Q_Digits) ((Fr.fq a_P_Sign a_P_Digits a_Q_Digits) - (Fr.fq b_P_Sign b_P_Digits b_Q_Digits))) (g.ss 1)]) (fun g => []) (fun g => []) := by
  refine V.fn mo Try.func46 25 3 (by kernel_rfl) fun w H ε k0 => ?_
  obtain ⟨⟨kl1, -⟩, ⟨kl2, -⟩, ⟨kl3, -⟩, ⟨kl4, -⟩, -⟩ : Lq a_P_Digits a_P_Digitss.v ∧ Lq a_Q_Digits a_Q_Digitss.v ∧ Lq b_P_Digits b_P_Digitss.v ∧ Lq b_Q_Digits b_Q_Digitss.v ∧ True := kn k0 (by kernel_rfl)
  clear k0
  refine V.go [.nb 0 0 (fun b => pp b 0) 33 (fun _ => ca (DFrac.mk (DBig.mk a_P_Sign ⟨a_P_Digits, a_P_Digitss⟩) (DBig.mk a_Q_Sign ⟨a_Q_Digits, a_Q_Digitss⟩))),
    .nb 1 1 (fun b => pp b 0) 33 (fun _ => ca (DFrac.mk (DBig.mk b_P_Sign ⟨b_P_Digits, b_P_Digitss⟩) (DBig.mk b_Q_Sign ⟨b_Q_Digits, b_Q_Digitss⟩))),
    .nb 2 2 (fun b => pp b 0) 33 (fun _ => ca (DFrac.mk (DBig.mk 0 ⟨[], {}⟩) (DBig.mk 0 ⟨[], {}⟩))),
    .k (iv 0)] (fun _ _ => by kernel_rfl) fun _ _ G1 => ?_
  intro S1 t1
  refine nm ((!(decide (Fr.FrB a_P_Sign a_P_Digits a_Q_Sign a_Q_Digits))) || (!(decide (Fr.FrB b_P_Sign b_P_Digits b_Q_Sign b_Q_Digits))) : Bool) fun p1 hp1 => ?_
  refine V.go [.ld 0 0 true (fun _ => Dat.cells (DFrac.mk (DBig.mk a_P_Sign ⟨a_P_Digits, a_P_Digitss⟩) (DBig.mk a_Q_Sign ⟨a_Q_Digits, a_Q_Digitss⟩))),
    .cp g0 1 19 [(kf false (.f 0) a_P_Digits (fun _ => a_P_Digitss)).a, (kf false (.f 1) a_Q_Digits (fun _ => a_Q_Digitss)).a] (fun _ G => right_ct a_P_Sign a_P_Digits a_P_Digitss a_Q_Sign a_Q_Digits a_Q_Digitss (by omega) (by omega)),
    .k (bv (!(decide (Fr.FrB a_P_Sign a_P_Digits a_Q_Sign a_Q_Digits)))),
    .k (bv (!(decide (Fr.FrB a_P_Sign a_P_Digits a_Q_Sign a_Q_Digits)))),
    .ld 1 0 true (fun _ => Dat.cells (DFrac.mk (DBig.mk b_P_Sign ⟨b_P_Digits, b_P_Digitss⟩) (DBig.mk b_Q_Sign ⟨b_Q_Digits, b_Q_Digitss⟩))),
    .cp (gF (b := !(decide (Fr.FrB a_P_Sign a_P_Digits a_Q_Sign a_Q_Digits))) (iNF iDT)) 5 19 [(kf false (.f 2) b_P_Digits (fun _ => b_P_Digitss)).a, (kf false (.f 3) b_Q_Digits (fun _ => b_Q_Digitss)).a] (fun hg G => right_ct b_P_Sign b_P_Digits b_P_Digitss b_Q_Sign b_Q_Digits b_Q_Digitss (by omega) (by omega)),
    .k (bv (!(decide (Fr.FrB b_P_Sign b_P_Digits b_Q_Sign b_Q_Digits)))),
    .orn g0 false (!(decide (Fr.FrB a_P_Sign a_P_Digits a_Q_Sign a_Q_Digits))) (!(decide (Fr.FrB b_P_Sign b_P_Digits b_Q_Sign b_Q_Digits))) p1 hp1] (fun _ _ => by kernel_rfl) fun _ _ G2 => ?_
  intro S2 t2
  refine V.cond (b := p1) (iN hp1 (iOT (iNT iDF) (iNT iDF))) (iN hp1 (iOF (iNF iDT) (iNF iDT))) (by kernel_rfl) (fun q1 => ?_) (fun q2 => ?_)
  · skip
    have hNR : ¬ (Fr.FrB a_P_Sign a_P_Digits a_Q_Sign a_Q_Digits ∧ Fr.FrB b_P_Sign b_P_Digits b_Q_Sign b_Q_Digits) := by rintro ⟨h1, h2⟩; rcases q1 with h | h; exact h h1; exact h h2
    refine V.go [.k (ag (DFrac.mk (DBig.mk 0 ⟨[], {}⟩) (DBig.mk 0 ⟨[], {}⟩))),
      .st 2 (fun _ => .blk ((G1 2).b) (ca (DFrac.mk (DBig.mk 0 ⟨[], {}⟩) (DBig.mk 0 ⟨[], {}⟩))) 33),
      .k (iv 1)] (fun _ _ => by kernel_rfl) fun _ _ G3 => ?_
    intro S3 t3
    refine V.nilF (α := Int) ?_
    refine V.nilF (α := Int) ?_
    have e1 : ([] : List Int) = Fr.rD (Fr.FrB a_P_Sign a_P_Digits a_Q_Sign a_Q_Digits ∧ Fr.FrB b_P_Sign b_P_Digits b_Q_Sign b_Q_Digits) ((Fr.fq a_P_Sign a_P_Digits a_Q_Digits) - (Fr.fq b_P_Sign b_P_Digits b_Q_Digits)) := by
      exact (Fr.Fz.no hNR ((Fr.fq a_P_Sign a_P_Digits a_Q_Digits) - (Fr.fq b_P_Sign b_P_Digits b_Q_Digits))).2.1
    rw [← e1]
    have e3 : ([] : List Int) = Fr.rE (Fr.FrB a_P_Sign a_P_Digits a_Q_Sign a_Q_Digits ∧ Fr.FrB b_P_Sign b_P_Digits b_Q_Sign b_Q_Digits) ((Fr.fq a_P_Sign a_P_Digits a_Q_Digits) - (Fr.fq b_P_Sign b_P_Digits b_Q_Digits)) := by
      exact (Fr.Fz.no hNR ((Fr.fq a_P_Sign a_P_Digits a_Q_Digits) - (Fr.fq b_P_Sign b_P_Digits b_Q_Digits))).2.2.2
    rw [← e3]
    have e0 : (0 : Int) = Fr.rS (Fr.FrB a_P_Sign a_P_Digits a_Q_Sign a_Q_Digits ∧ Fr.FrB b_P_Sign b_P_Digits b_Q_Sign b_Q_Digits) ((Fr.fq a_P_Sign a_P_Digits a_Q_Digits) - (Fr.fq b_P_Sign b_P_Digits b_Q_Digits)) := by
      exact (Fr.Fz.no hNR ((Fr.fq a_P_Sign a_P_Digits a_Q_Digits) - (Fr.fq b_P_Sign b_P_Digits b_Q_Digits))).1
    have e2 : (0 : Int) = Fr.rT (Fr.FrB a_P_Sign a_P_Digits a_Q_Sign a_Q_Digits ∧ Fr.FrB b_P_Sign b_P_Digits b_Q_Sign b_Q_Digits) := by
      exact (Fr.Fz.no hNR ((Fr.fq a_P_Sign a_P_Digits a_Q_Digits) - (Fr.fq b_P_Sign b_P_Digits b_Q_Digits))).2.2.1
    have e4 : (1 : Int) = if ¬ (Fr.FrB a_P_Sign a_P_Digits a_Q_Sign a_Q_Digits ∧ Fr.FrB b_P_Sign b_P_Digits b_Q_Sign b_Q_Digits) then (1 : Int) else 0 := by
      exact (if_pos hNR).symm
    exact V.ret [2, 0] [{}, {}] [fun _ => {}, fun _ => {}] [] [4, 5] [] (.tuple #[ag (DFrac.mk (DBig.mk 0 ⟨([] : List Int), {}⟩) (DBig.mk 0 ⟨([] : List Int), {}⟩)), iv 1]) (fun _ _ => by kernel_rfl) (fun _ _ => (Eq.trans (by kernel_rfl) (cong3 (fun (x0 : Int) (x2 : Int) (x4 : Int) => (.tuple #[.agg #[iv x0, SV.v ({}), iv x2, SV.v ({})], iv x4] : Value)) e0 e2 e4)).trans (by kernel_rfl)) (fun _ _ => trivial)
  · skip
    have hRR : Fr.FrB a_P_Sign a_P_Digits a_Q_Sign a_Q_Digits ∧ Fr.FrB b_P_Sign b_P_Digits b_Q_Sign b_Q_Digits := by first | exact q2 | exact ⟨Decidable.not_not.1 (q2).1, Decidable.not_not.1 (q2).2⟩
    have fa := Fr.FrB.z hRR.1; have fb := Fr.FrB.z hRR.2
    refine nm (Bg.oS (Bg.RtB b_P_Sign b_P_Digits) (-Bg.zv b_P_Sign b_P_Digits) : Int) fun n1 hn1 => ?_
    refine nm (Bg.oD (Bg.RtB b_P_Sign b_P_Digits) (-Bg.zv b_P_Sign b_P_Digits) : List Int) fun l1 hl1 => ?_
    have hl1n := congrArg List.length hl1
    refine nm (Fr.rS (Fr.FrB a_P_Sign a_P_Digits a_Q_Sign a_Q_Digits ∧ Fr.FrB n1 l1 b_Q_Sign b_Q_Digits) ((Fr.fq a_P_Sign a_P_Digits a_Q_Digits) + (Fr.fq n1 l1 b_Q_Digits)) : Int) fun n2 hn2 => ?_
    refine nm (Fr.rD (Fr.FrB a_P_Sign a_P_Digits a_Q_Sign a_Q_Digits ∧ Fr.FrB n1 l1 b_Q_Sign b_Q_Digits) ((Fr.fq a_P_Sign a_P_Digits a_Q_Digits) + (Fr.fq n1 l1 b_Q_Digits)) : List Int) fun l2 hl2 => ?_
    have hl2n := congrArg List.length hl2
    refine nm (Fr.rT (Fr.FrB a_P_Sign a_P_Digits a_Q_Sign a_Q_Digits ∧ Fr.FrB n1 l1 b_Q_Sign b_Q_Digits) : Int) fun n3 hn3 => ?_
    refine nm (Fr.rE (Fr.FrB a_P_Sign a_P_Digits a_Q_Sign a_Q_Digits ∧ Fr.FrB n1 l1 b_Q_Sign b_Q_Digits) ((Fr.fq a_P_Sign a_P_Digits a_Q_Digits) + (Fr.fq n1 l1 b_Q_Digits)) : List Int) fun l3 hl3 => ?_
    have hl3n := congrArg List.length hl3
    refine nm (if ¬ (Fr.FrB a_P_Sign a_P_Digits a_Q_Sign a_Q_Digits ∧ Fr.FrB n1 l1 b_Q_Sign b_Q_Digits) then (1 : Int) else 0 : Int) fun n4 hn4 => ?_
    have fn := Fr.FrB.neg fb hn1 hl1
    have fnl := (fb.p.neg hn1 hl1).2
    have hRN := And.intro hRR.1 fn.rt
    have zf := Fr.Fz.of hRN hn2 hl2 hn3 hl3
    rw [fn.v] at zf
    have hEr : n4 = 0 := by rw [hn4, if_neg (fun h => h hRN)]
    have heq := (Rat.sub_eq_add_neg (Fr.fq a_P_Sign a_P_Digits a_Q_Digits) (Fr.fq b_P_Sign b_P_Digits b_Q_Digits)).symm
    refine V.reg [.ld 0 0 true (fun _ => Dat.cells (DFrac.mk (DBig.mk a_P_Sign ⟨a_P_Digits, a_P_Digitss⟩) (DBig.mk a_Q_Sign ⟨a_Q_Digits, a_Q_Digitss⟩))),
      .k (pp ((G1 1).b) 0),
      .ld 1 0 true (fun _ => Dat.cells (DBig.mk b_P_Sign ⟨b_P_Digits, b_P_Digitss⟩)),
      .ct g0 3 76 false [] [] [(kf false (.f 2) b_P_Digits (fun _ => b_P_Digitss)).a] (fun _ G => neg_ctv b_P_Sign b_P_Digits b_P_Digitss (by omega) n1 hn1 l1 hl1),
      .k (pp ((G1 1).b) 2),
      .ld 1 2 true (fun _ => Dat.cells (DBig.mk b_Q_Sign ⟨b_Q_Digits, b_Q_Digitss⟩)),
      .v fun G => ag (DFrac.mk (DBig.mk n1 ⟨l1, (G 3).ss 0⟩) (DBig.mk b_Q_Sign ⟨b_Q_Digits, b_Q_Digitss⟩)),
      .ct g0 7 14 false [] [] [(kf false (.f 0) a_P_Digits (fun _ => a_P_Digitss)).a, (kf false (.f 1) a_Q_Digits (fun _ => a_Q_Digitss)).a, (kf true (.g 3 0) l1 (fun G => (G 3).ss 0)).a, (kf false (.f 3) b_Q_Digits (fun _ => b_Q_Digitss)).a] (fun _ G => fadd_ctv a_P_Sign a_P_Digits a_P_Digitss a_Q_Sign a_Q_Digits a_Q_Digitss n1 l1 ((G 3).ss 0) b_Q_Sign b_Q_Digits b_Q_Digitss (by omega) (by omega) (by omega) (by omega) n2 hn2 l2 hl2 n3 hn3 l3 hl3 n4 hn4),
      .v fun G => ag (DFrac.mk (DBig.mk n2 ⟨l2, (G 7).ss 0⟩) (DBig.mk n3 ⟨l3, (G 7).ss 1⟩)),
      .k (iv n4),
      .st 2 (fun G => .blk ((G1 2).b) (ca (DFrac.mk (DBig.mk n2 ⟨l2, (G 7).ss 0⟩) (DBig.mk n3 ⟨l3, (G 7).ss 1⟩))) 33),
      .k (iv n4)] (fun _ _ => by kernel_rfl) fun _ _ G4 kw4 => ?_
    intro S4 t4
    obtain ⟨⟨kl5, -⟩, ⟨kl6, -⟩, ⟨kl7, -⟩, -⟩ : Lq l1 (((G4 3).ss 0).v) ∧ Lq l2 (((G4 7).ss 0).v) ∧ Lq l3 (((G4 7).ss 1).v) ∧ True := kn kw4 (by kernel_rfl)
    clear kw4
    have e1 : l2 = Fr.rD (Fr.FrB a_P_Sign a_P_Digits a_Q_Sign a_Q_Digits ∧ Fr.FrB b_P_Sign b_P_Digits b_Q_Sign b_Q_Digits) ((Fr.fq a_P_Sign a_P_Digits a_Q_Digits) - (Fr.fq b_P_Sign b_P_Digits b_Q_Digits)) := by
      exact (Fr.Fz.ret zf hRR (heq)).2.1
    subst e1
    have e3 : l3 = Fr.rE (Fr.FrB a_P_Sign a_P_Digits a_Q_Sign a_Q_Digits ∧ Fr.FrB b_P_Sign b_P_Digits b_Q_Sign b_Q_Digits) ((Fr.fq a_P_Sign a_P_Digits a_Q_Digits) - (Fr.fq b_P_Sign b_P_Digits b_Q_Digits)) := by
      exact (Fr.Fz.ret zf hRR (heq)).2.2.2
    subst e3
    have e0 : n2 = Fr.rS (Fr.FrB a_P_Sign a_P_Digits a_Q_Sign a_Q_Digits ∧ Fr.FrB b_P_Sign b_P_Digits b_Q_Sign b_Q_Digits) ((Fr.fq a_P_Sign a_P_Digits a_Q_Digits) - (Fr.fq b_P_Sign b_P_Digits b_Q_Digits)) := by
      exact (Fr.Fz.ret zf hRR (heq)).1
    have e2 : n3 = Fr.rT (Fr.FrB a_P_Sign a_P_Digits a_Q_Sign a_Q_Digits ∧ Fr.FrB b_P_Sign b_P_Digits b_Q_Sign b_Q_Digits) := by
      exact (Fr.Fz.ret zf hRR (heq)).2.2.1
    have e4 : n4 = if ¬ (Fr.FrB a_P_Sign a_P_Digits a_Q_Sign a_Q_Digits ∧ Fr.FrB b_P_Sign b_P_Digits b_Q_Sign b_Q_Digits) then (1 : Int) else 0 := by
      rw [if_neg (fun h => h hRR)]; exact hEr
    exact V.ret [2, 0] [(G4 7).ss 0, (G4 7).ss 1] [fun _ => {}, fun _ => {}] [] [5, 6] [] (.tuple #[ag (DFrac.mk (DBig.mk n2 ⟨(Fr.rD (Fr.FrB a_P_Sign a_P_Digits a_Q_Sign a_Q_Digits ∧ Fr.FrB b_P_Sign b_P_Digits b_Q_Sign b_Q_Digits) ((Fr.fq a_P_Sign a_P_Digits a_Q_Digits) - (Fr.fq b_P_Sign b_P_Digits b_Q_Digits))), (G4 7).ss 0⟩) (DBig.mk n3 ⟨(Fr.rE (Fr.FrB a_P_Sign a_P_Digits a_Q_Sign a_Q_Digits ∧ Fr.FrB b_P_Sign b_P_Digits b_Q_Sign b_Q_Digits) ((Fr.fq a_P_Sign a_P_Digits a_Q_Digits) - (Fr.fq b_P_Sign b_P_Digits b_Q_Digits))), (G4 7).ss 1⟩)), iv n4]) (fun _ _ => by kernel_rfl) (fun _ _ => (Eq.trans (by kernel_rfl) (cong3 (fun (x0 : Int) (x2 : Int) (x4 : Int) => (.tuple #[.agg #[iv x0, ((G4 7).ss 0).v, iv x2, ((G4 7).ss 1).v], iv x4] : Value)) e0 e2 e4)).trans (by kernel_rfl)) (fun _ _ => trivial)
theorem fsub_ctv (a_P_Sign : Int) (a_P_Digits : List Int) (a_P_Digitss : SV) (a_Q_Sign : Int) (a_Q_Digits : List Int) (a_Q_Digitss : SV) (b_P_Sign : Int) (b_P_Digits : List Int) (b_P_Digitss : SV) (b_Q_Sign : Int) (b_Q_Digits : List Int) (b_Q_Digitss : SV) (haP : a_P_Digits.length ≤ 17179869184) (haQ : a_Q_Digits.length ≤ 17179869184) (hbP : b_P_Digits.length ≤ 17179869184) (hbQ : b_Q_Digits.length ≤ 17179869184) (rv0 : Int) (erv0 : rv0 = Fr.rS (Fr.FrB a_P_Sign a_P_Digits a_Q_Sign a_Q_Digits ∧ Fr.FrB b_P_Sign b_P_Digits b_Q_Sign b_Q_Digits) ((Fr.fq a_P_Sign a_P_Digits a_Q_Digits) - (Fr.fq b_P_Sign b_P_Digits b_Q_Digits))) (rv1 : List Int) (erv1 : rv1 = Fr.rD (Fr.FrB a_P_Sign a_P_Digits a_Q_Sign a_Q_Digits ∧ Fr.FrB b_P_Sign b_P_Digits b_Q_Sign b_Q_Digits) ((Fr.fq a_P_Sign a_P_Digits a_Q_Digits) - (Fr.fq b_P_Sign b_P_Digits b_Q_Digits))) (rv2 : Int) (erv2 : rv2 = Fr.rT (Fr.FrB a_P_Sign a_P_Digits a_Q_Sign a_Q_Digits ∧ Fr.FrB b_P_Sign b_P_Digits b_Q_Sign b_Q_Digits)) (rv3 : List Int) (erv3 : rv3 = Fr.rE (Fr.FrB a_P_Sign a_P_Digits a_Q_Sign a_Q_Digits ∧ Fr.FrB b_P_Sign b_P_Digits b_Q_Sign b_Q_Digits) ((Fr.fq a_P_Sign a_P_Digits a_Q_Digits) - (Fr.fq b_P_Sign b_P_Digits b_Q_Digits))) (rv4 : Int) (erv4 : rv4 = if ¬ (Fr.FrB a_P_Sign a_P_Digits a_Q_Sign a_Q_Digits ∧ Fr.FrB b_P_Sign b_P_Digits b_Q_Sign b_Q_Digits) then (1 : Int) else 0) :
    Ct Try.prog 46 #[ag (DFrac.mk (DBig.mk a_P_Sign ⟨a_P_Digits, a_P_Digitss⟩) (DBig.mk a_Q_Sign ⟨a_Q_Digits, a_Q_Digitss⟩)), ag (DFrac.mk (DBig.mk b_P_Sign ⟨b_P_Digits, b_P_Digitss⟩) (DBig.mk b_Q_Sign ⟨b_Q_Digits, b_Q_Digitss⟩))] [fs true a_P_Digits a_P_Digitss, fs true a_Q_Digits a_Q_Digitss, fs true b_P_Digits b_P_Digitss, fs true b_Q_Digits b_Q_Digitss] [] (fun g => .tuple #[ag (DFrac.mk (DBig.mk rv0 ⟨rv1, (g.ss 0)⟩) (DBig.mk rv2 ⟨rv3, (g.ss 1)⟩)), iv rv4]) (fun g => [fs true rv1 (g.ss 0), fs true rv3 (g.ss 1)]) (fun g => []) (fun g => []) := by
  subst erv0 erv1 erv2 erv3 erv4; exact fsub_ct a_P_Sign a_P_Digits a_P_Digitss a_Q_Sign a_Q_Digits a_Q_Digitss b_P_Sign b_P_Digits b_P_Digitss b_Q_Sign b_Q_Digits b_Q_Digitss haP haQ hbP hbQ

set_option maxRecDepth 10000 in
theorem fdiv_ct (a_P_Sign : Int) (a_P_Digits : List Int) (a_P_Digitss : SV) (a_Q_Sign : Int) (a_Q_Digits : List Int) (a_Q_Digitss : SV) (b_P_Sign : Int) (b_P_Digits : List Int) (b_P_Digitss : SV) (b_Q_Sign : Int) (b_Q_Digits : List Int) (b_Q_Digitss : SV) (haP : a_P_Digits.length ≤ 17179869184) (haQ : a_Q_Digits.length ≤ 17179869184) (hbP : b_P_Digits.length ≤ 17179869184) (hbQ : b_Q_Digits.length ≤ 17179869184) :
    Ct Try.prog 37 #[ag (DFrac.mk (DBig.mk a_P_Sign ⟨a_P_Digits, a_P_Digitss⟩) (DBig.mk a_Q_Sign ⟨a_Q_Digits, a_Q_Digitss⟩)), ag (DFrac.mk (DBig.mk b_P_Sign ⟨b_P_Digits, b_P_Digitss⟩) (DBig.mk b_Q_Sign ⟨b_Q_Digits, b_Q_Digitss⟩))] [fs true a_P_Digits a_P_Digitss, fs true a_Q_Digits a_Q_Digitss, fs true b_P_Digits b_P_Digitss, fs true b_Q_Digits b_Q_Digitss] [] (fun g => .tuple #[ag (DFrac.mk (DBig.mk (Fr.rS ((Fr.FrB a_P_Sign a_P_Digits a_Q_Sign a_Q_Digits ∧ Fr.FrB b_P_Sign b_P_Digits b_Q_Sign b_Q_Digits) ∧ b_P_Sign ≠ 0) ((Fr.fq a_P_Sign a_P_Digits a_Q_Digits) / (Fr.fq b_P_Sign b_P_Digits b_Q_Digits))) ⟨Fr.rD ((Fr.FrB a_P_Sign a_P_Digits a_Q_Sign a_Q_Digits ∧ Fr.FrB b_P_Sign b_P_Digits b_Q_Sign b_Q_Digits) ∧ b_P_Sign ≠ 0) ((Fr.fq a_P_Sign a_P_Digits a_Q_Digits) / (Fr.fq b_P_Sign b_P_Digits b_Q_Digits)), (g.ss 0)⟩) (DBig.mk (Fr.rT ((Fr.FrB a_P_Sign a_P_Digits a_Q_Sign a_Q_Digits ∧ Fr.FrB b_P_Sign b_P_Digits b_Q_Sign b_Q_Digits) ∧ b_P_Sign ≠ 0)) ⟨Fr.rE ((Fr.FrB a_P_Sign a_P_Digits a_Q_Sign a_Q_Digits ∧ Fr.FrB b_P_Sign b_P_Digits b_Q_Sign b_Q_Digits) ∧ b_P_Sign ≠ 0) ((Fr.fq a_P_Sign a_P_Digits a_Q_Digits) / (Fr.fq b_P_Sign b_P_Digits b_Q_Digits)), (g.ss 1)⟩)), iv (if ¬ (Fr.FrB a_P_Sign a_P_Digits a_Q_Sign a_Q_Digits ∧ Fr.FrB b_P_Sign b_P_Digits b_Q_Sign b_Q_Digits) then (1 : Int) else if b_P_Sign = 0 then 15 else 0)]) (fun g => [fs true (Fr.rD ((Fr.FrB a_P_Sign a_P_Digits a_Q_Sign a_Q_Digits ∧ Fr.FrB b_P_Sign b_P_Digits b_Q_Sign b_Q_Digits) ∧ b_P_Sign ≠ 0) ((Fr.fq a_P_Sign a_P_Digits a_Q_Digits) / (Fr.fq b_P_Sign b_P_Digits b_Q_Digits))) (g.ss 0), fs true (Fr.rE ((Fr.FrB a_P_Sign a_P_Digits a_Q_Sign a_Q_Digits ∧ Fr.FrB b_P_Sign b_P_Digits b_Q_Sign b_Q_Digits) ∧ b_P_Sign ≠ 0) ((Fr.fq a_P_Sign a_P_Digits a_Q_Digits) / (Fr.fq b_P_Sign b_P_Digits b_Q_Digits))) (g.ss 1)]) (fun g => []) (fun g => []) := by
  refine V.fn mo Try.func37 35 3 (by kernel_rfl) fun w H ε k0 => ?_
  obtain ⟨⟨kl1, -⟩, ⟨kl2, -⟩, ⟨kl3, -⟩, ⟨kl4, -⟩, -⟩ : Lq a_P_Digits a_P_Digitss.v ∧ Lq a_Q_Digits a_Q_Digitss.v ∧ Lq b_P_Digits b_P_Digitss.v ∧ Lq b_Q_Digits b_Q_Digitss.v ∧ True := kn k0 (by kernel_rfl)
  clear k0
  refine V.go [.nb 0 0 (fun b => pp b 0) 33 (fun _ => ca (DFrac.mk (DBig.mk a_P_Sign ⟨a_P_Digits, a_P_Digitss⟩) (DBig.mk a_Q_Sign ⟨a_Q_Digits, a_Q_Digitss⟩))),
    .nb 1 1 (fun b => pp b 0) 33 (fun _ => ca (DFrac.mk (DBig.mk b_P_Sign ⟨b_P_Digits, b_P_Digitss⟩) (DBig.mk b_Q_Sign ⟨b_Q_Digits, b_Q_Digitss⟩))),
    .nb 2 2 (fun b => pp b 0) 33 (fun _ => ca (DFrac.mk (DBig.mk 0 ⟨[], {}⟩) (DBig.mk 0 ⟨[], {}⟩))),
    .k (iv 0)] (fun _ _ => by kernel_rfl) fun _ _ G1 => ?_
  intro S1 t1
  refine nm ((!(decide (Fr.FrB a_P_Sign a_P_Digits a_Q_Sign a_Q_Digits))) || (!(decide (Fr.FrB b_P_Sign b_P_Digits b_Q_Sign b_Q_Digits))) : Bool) fun p1 hp1 => ?_
  refine V.go [.ld 0 0 true (fun _ => Dat.cells (DFrac.mk (DBig.mk a_P_Sign ⟨a_P_Digits, a_P_Digitss⟩) (DBig.mk a_Q_Sign ⟨a_Q_Digits, a_Q_Digitss⟩))),
    .cp g0 1 19 [(kf false (.f 0) a_P_Digits (fun _ => a_P_Digitss)).a, (kf false (.f 1) a_Q_Digits (fun _ => a_Q_Digitss)).a] (fun _ G => right_ct a_P_Sign a_P_Digits a_P_Digitss a_Q_Sign a_Q_Digits a_Q_Digitss (by omega) (by omega)),
    .k (bv (!(decide (Fr.FrB a_P_Sign a_P_Digits a_Q_Sign a_Q_Digits)))),
    .k (bv (!(decide (Fr.FrB a_P_Sign a_P_Digits a_Q_Sign a_Q_Digits)))),
    .ld 1 0 true (fun _ => Dat.cells (DFrac.mk (DBig.mk b_P_Sign ⟨b_P_Digits, b_P_Digitss⟩) (DBig.mk b_Q_Sign ⟨b_Q_Digits, b_Q_Digitss⟩))),
    .cp (gF (b := !(decide (Fr.FrB a_P_Sign a_P_Digits a_Q_Sign a_Q_Digits))) (iNF iDT)) 5 19 [(kf false (.f 2) b_P_Digits (fun _ => b_P_Digitss)).a, (kf false (.f 3) b_Q_Digits (fun _ => b_Q_Digitss)).a] (fun hg G => right_ct b_P_Sign b_P_Digits b_P_Digitss b_Q_Sign b_Q_Digits b_Q_Digitss (by omega) (by omega)),
    .k (bv (!(decide (Fr.FrB b_P_Sign b_P_Digits b_Q_Sign b_Q_Digits)))),
    .orn g0 false (!(decide (Fr.FrB a_P_Sign a_P_Digits a_Q_Sign a_Q_Digits))) (!(decide (Fr.FrB b_P_Sign b_P_Digits b_Q_Sign b_Q_Digits))) p1 hp1,
    .k (bv p1)] (fun _ _ => by kernel_rfl) fun _ _ G2 => ?_
  intro S2 t2
  refine V.cond (b := p1) (iN hp1 (iOT (iNT iDF) (iNT iDF))) (iN hp1 (iOF (iNF iDT) (iNF iDT))) (by kernel_rfl) (fun q1 => ?_) (fun q2 => ?_)
  · skip
    have hNR : ¬ (Fr.FrB a_P_Sign a_P_Digits a_Q_Sign a_Q_Digits ∧ Fr.FrB b_P_Sign b_P_Digits b_Q_Sign b_Q_Digits) := by rintro ⟨h1, h2⟩; rcases q1 with h | h; exact h h1; exact h h2
    refine V.go [.k (ag (DFrac.mk (DBig.mk 0 ⟨[], {}⟩) (DBig.mk 0 ⟨[], {}⟩))),
      .st 2 (fun _ => .blk ((G1 2).b) (ca (DFrac.mk (DBig.mk 0 ⟨[], {}⟩) (DBig.mk 0 ⟨[], {}⟩))) 33),
      .k (iv 1)] (fun _ _ => by kernel_rfl) fun _ _ G3 => ?_
    intro S3 t3
    refine V.nilF (α := Int) ?_
    refine V.nilF (α := Int) ?_
    have e1 : ([] : List Int) = Fr.rD ((Fr.FrB a_P_Sign a_P_Digits a_Q_Sign a_Q_Digits ∧ Fr.FrB b_P_Sign b_P_Digits b_Q_Sign b_Q_Digits) ∧ b_P_Sign ≠ 0) ((Fr.fq a_P_Sign a_P_Digits a_Q_Digits) / (Fr.fq b_P_Sign b_P_Digits b_Q_Digits)) := by
      exact (Fr.Fz.no (fun h => hNR h.1) ((Fr.fq a_P_Sign a_P_Digits a_Q_Digits) / (Fr.fq b_P_Sign b_P_Digits b_Q_Digits))).2.1
    rw [← e1]
    have e3 : ([] : List Int) = Fr.rE ((Fr.FrB a_P_Sign a_P_Digits a_Q_Sign a_Q_Digits ∧ Fr.FrB b_P_Sign b_P_Digits b_Q_Sign b_Q_Digits) ∧ b_P_Sign ≠ 0) ((Fr.fq a_P_Sign a_P_Digits a_Q_Digits) / (Fr.fq b_P_Sign b_P_Digits b_Q_Digits)) := by
      exact (Fr.Fz.no (fun h => hNR h.1) ((Fr.fq a_P_Sign a_P_Digits a_Q_Digits) / (Fr.fq b_P_Sign b_P_Digits b_Q_Digits))).2.2.2
    rw [← e3]
    have e0 : (0 : Int) = Fr.rS ((Fr.FrB a_P_Sign a_P_Digits a_Q_Sign a_Q_Digits ∧ Fr.FrB b_P_Sign b_P_Digits b_Q_Sign b_Q_Digits) ∧ b_P_Sign ≠ 0) ((Fr.fq a_P_Sign a_P_Digits a_Q_Digits) / (Fr.fq b_P_Sign b_P_Digits b_Q_Digits)) := by
      exact (Fr.Fz.no (fun h => hNR h.1) ((Fr.fq a_P_Sign a_P_Digits a_Q_Digits) / (Fr.fq b_P_Sign b_P_Digits b_Q_Digits))).1
    have e2 : (0 : Int) = Fr.rT ((Fr.FrB a_P_Sign a_P_Digits a_Q_Sign a_Q_Digits ∧ Fr.FrB b_P_Sign b_P_Digits b_Q_Sign b_Q_Digits) ∧ b_P_Sign ≠ 0) := by
      exact (Fr.Fz.no (fun h => hNR h.1) ((Fr.fq a_P_Sign a_P_Digits a_Q_Digits) / (Fr.fq b_P_Sign b_P_Digits b_Q_Digits))).2.2.1
    have e4 : (1 : Int) = if ¬ (Fr.FrB a_P_Sign a_P_Digits a_Q_Sign a_Q_Digits ∧ Fr.FrB b_P_Sign b_P_Digits b_Q_Sign b_Q_Digits) then (1 : Int) else if b_P_Sign = 0 then 15 else 0 := by
      exact (if_pos hNR).symm
    exact V.ret [2, 0] [{}, {}] [fun _ => {}, fun _ => {}] [] [4, 5] [] (.tuple #[ag (DFrac.mk (DBig.mk 0 ⟨([] : List Int), {}⟩) (DBig.mk 0 ⟨([] : List Int), {}⟩)), iv 1]) (fun _ _ => by kernel_rfl) (fun _ _ => (Eq.trans (by kernel_rfl) (cong3 (fun (x0 : Int) (x2 : Int) (x4 : Int) => (.tuple #[.agg #[iv x0, SV.v ({}), iv x2, SV.v ({})], iv x4] : Value)) e0 e2 e4)).trans (by kernel_rfl)) (fun _ _ => trivial)
  · skip
    have hRR : Fr.FrB a_P_Sign a_P_Digits a_Q_Sign a_Q_Digits ∧ Fr.FrB b_P_Sign b_P_Digits b_Q_Sign b_Q_Digits := by first | exact q2 | exact ⟨Decidable.not_not.1 (q2).1, Decidable.not_not.1 (q2).2⟩
    have fa := Fr.FrB.z hRR.1; have fb := Fr.FrB.z hRR.2
    refine V.go [.k (pp ((G1 1).b) 0),
      .k (pp ((G1 1).b) 0),
      .ld 1 0 false (fun _ => [iv b_P_Sign]),
      .k (bv (decide (b_P_Sign = 0))),
      .k (bv (decide (b_P_Sign = 0)))] (fun _ _ => by kernel_rfl) fun _ _ G4 => ?_
    intro S4 t4
    refine V.cond (b := decide (b_P_Sign = 0)) iDT iDF (by kernel_rfl) (fun q3 => ?_) (fun q4 => ?_)
    · skip
      have hz0 : b_P_Sign = 0 := q3
      refine V.go [.k (ag (DFrac.mk (DBig.mk 0 ⟨[], {}⟩) (DBig.mk 0 ⟨[], {}⟩))),
        .st 2 (fun _ => .blk ((G1 2).b) (ca (DFrac.mk (DBig.mk 0 ⟨[], {}⟩) (DBig.mk 0 ⟨[], {}⟩))) 33),
        .k (iv 15)] (fun _ _ => by kernel_rfl) fun _ _ G5 => ?_
      intro S5 t5
      refine V.nilF (α := Int) ?_
      refine V.nilF (α := Int) ?_
      have e1 : ([] : List Int) = Fr.rD ((Fr.FrB a_P_Sign a_P_Digits a_Q_Sign a_Q_Digits ∧ Fr.FrB b_P_Sign b_P_Digits b_Q_Sign b_Q_Digits) ∧ b_P_Sign ≠ 0) ((Fr.fq a_P_Sign a_P_Digits a_Q_Digits) / (Fr.fq b_P_Sign b_P_Digits b_Q_Digits)) := by
        exact (Fr.Fz.no (fun h => h.2 hz0) ((Fr.fq a_P_Sign a_P_Digits a_Q_Digits) / (Fr.fq b_P_Sign b_P_Digits b_Q_Digits))).2.1
      rw [← e1]
      have e3 : ([] : List Int) = Fr.rE ((Fr.FrB a_P_Sign a_P_Digits a_Q_Sign a_Q_Digits ∧ Fr.FrB b_P_Sign b_P_Digits b_Q_Sign b_Q_Digits) ∧ b_P_Sign ≠ 0) ((Fr.fq a_P_Sign a_P_Digits a_Q_Digits) / (Fr.fq b_P_Sign b_P_Digits b_Q_Digits)) := by
        exact (Fr.Fz.no (fun h => h.2 hz0) ((Fr.fq a_P_Sign a_P_Digits a_Q_Digits) / (Fr.fq b_P_Sign b_P_Digits b_Q_Digits))).2.2.2
      rw [← e3]
      have e0 : (0 : Int) = Fr.rS ((Fr.FrB a_P_Sign a_P_Digits a_Q_Sign a_Q_Digits ∧ Fr.FrB b_P_Sign b_P_Digits b_Q_Sign b_Q_Digits) ∧ b_P_Sign ≠ 0) ((Fr.fq a_P_Sign a_P_Digits a_Q_Digits) / (Fr.fq b_P_Sign b_P_Digits b_Q_Digits)) := by
        exact (Fr.Fz.no (fun h => h.2 hz0) ((Fr.fq a_P_Sign a_P_Digits a_Q_Digits) / (Fr.fq b_P_Sign b_P_Digits b_Q_Digits))).1
      have e2 : (0 : Int) = Fr.rT ((Fr.FrB a_P_Sign a_P_Digits a_Q_Sign a_Q_Digits ∧ Fr.FrB b_P_Sign b_P_Digits b_Q_Sign b_Q_Digits) ∧ b_P_Sign ≠ 0) := by
        exact (Fr.Fz.no (fun h => h.2 hz0) ((Fr.fq a_P_Sign a_P_Digits a_Q_Digits) / (Fr.fq b_P_Sign b_P_Digits b_Q_Digits))).2.2.1
      have e4 : (15 : Int) = if ¬ (Fr.FrB a_P_Sign a_P_Digits a_Q_Sign a_Q_Digits ∧ Fr.FrB b_P_Sign b_P_Digits b_Q_Sign b_Q_Digits) then (1 : Int) else if b_P_Sign = 0 then 15 else 0 := by
        rw [if_neg (fun h => h hRR), if_pos hz0]
      exact V.ret [2, 0] [{}, {}] [fun _ => {}, fun _ => {}] [] [4, 5] [] (.tuple #[ag (DFrac.mk (DBig.mk 0 ⟨([] : List Int), {}⟩) (DBig.mk 0 ⟨([] : List Int), {}⟩)), iv 15]) (fun _ _ => by kernel_rfl) (fun _ _ => (Eq.trans (by kernel_rfl) (cong3 (fun (x0 : Int) (x2 : Int) (x4 : Int) => (.tuple #[.agg #[iv x0, SV.v ({}), iv x2, SV.v ({})], iv x4] : Value)) e0 e2 e4)).trans (by kernel_rfl)) (fun _ _ => trivial)
    · skip
      have hz0 : ¬ b_P_Sign = 0 := q4
      refine nm (Bg.oS (Bg.RtB a_P_Sign a_P_Digits ∧ Bg.RtB b_Q_Sign b_Q_Digits) (Bg.zv a_P_Sign a_P_Digits * Bg.zv b_Q_Sign b_Q_Digits) : Int) fun n1 hn1 => ?_
      refine nm (Bg.oD (Bg.RtB a_P_Sign a_P_Digits ∧ Bg.RtB b_Q_Sign b_Q_Digits) (Bg.zv a_P_Sign a_P_Digits * Bg.zv b_Q_Sign b_Q_Digits) : List Int) fun l1 hl1 => ?_
      have hl1n := congrArg List.length hl1
      refine nm (Bg.oS (Bg.RtB a_Q_Sign a_Q_Digits ∧ Bg.RtB b_P_Sign b_P_Digits) (Bg.zv a_Q_Sign a_Q_Digits * Bg.zv b_P_Sign b_P_Digits) : Int) fun n2 hn2 => ?_
      refine nm (Bg.oD (Bg.RtB a_Q_Sign a_Q_Digits ∧ Bg.RtB b_P_Sign b_P_Digits) (Bg.zv a_Q_Sign a_Q_Digits * Bg.zv b_P_Sign b_P_Digits) : List Int) fun l2 hl2 => ?_
      have hl2n := congrArg List.length hl2
      refine nm (Fr.rS ((Bg.RtB n1 l1 ∧ Bg.RtB n2 l2) ∧ n2 ≠ 0) (Rat.divInt (Bg.zv n1 l1) (Bg.zv n2 l2)) : Int) fun n3 hn3 => ?_
      refine nm (Fr.rD ((Bg.RtB n1 l1 ∧ Bg.RtB n2 l2) ∧ n2 ≠ 0) (Rat.divInt (Bg.zv n1 l1) (Bg.zv n2 l2)) : List Int) fun l3 hl3 => ?_
      have hl3n := congrArg List.length hl3
      refine nm (Fr.rT ((Bg.RtB n1 l1 ∧ Bg.RtB n2 l2) ∧ n2 ≠ 0) : Int) fun n4 hn4 => ?_
      refine nm (Fr.rE ((Bg.RtB n1 l1 ∧ Bg.RtB n2 l2) ∧ n2 ≠ 0) (Rat.divInt (Bg.zv n1 l1) (Bg.zv n2 l2)) : List Int) fun l4 hl4 => ?_
      have hl4n := congrArg List.length hl4
      refine nm (if ¬ (Bg.RtB n1 l1 ∧ Bg.RtB n2 l2) then (1 : Int) else if n2 = 0 then 15 else 0 : Int) fun n5 hn5 => ?_
      obtain ⟨z4, z4l⟩ := Fr.Bz.mul fa.p fb.q hn1 hl1
      obtain ⟨z9, z9l⟩ := Fr.Bz.mul fa.q fb.p hn2 hl2
      have hy0 : (((Fr.fq a_P_Sign a_P_Digits a_Q_Digits)).den : Int) * ((Fr.fq b_P_Sign b_P_Digits b_Q_Digits)).num ≠ 0 := Int.mul_ne_zero fa.den (fb.p.ne.1 hz0)
      have zf := Fr.new_is z4 z9 hy0 hn3 hl3 hn4 hl4
      have hEr : n5 = 0 := by rw [hn5, if_neg (fun h => h ⟨z4.rt, z9.rt⟩), if_neg (z9.ne.2 hy0)]
      have heq := (Fr.div_is (Fr.fq a_P_Sign a_P_Digits a_Q_Digits) (Fr.fq b_P_Sign b_P_Digits b_Q_Digits)).symm
      refine V.reg [.k (pp ((G1 0).b) 0),
        .ld 0 0 true (fun _ => Dat.cells (DBig.mk a_P_Sign ⟨a_P_Digits, a_P_Digitss⟩)),
        .k (pp ((G1 1).b) 2),
        .ld 1 2 true (fun _ => Dat.cells (DBig.mk b_Q_Sign ⟨b_Q_Digits, b_Q_Digitss⟩)),
        .ct g0 4 39 false [] [] [(kf false (.f 0) a_P_Digits (fun _ => a_P_Digitss)).a, (kf false (.f 3) b_Q_Digits (fun _ => b_Q_Digitss)).a] (fun _ G => times_ctv a_P_Sign a_P_Digits a_P_Digitss b_Q_Sign b_Q_Digits b_Q_Digitss (by omega) (by omega) n1 hn1 l1 hl1),
        .k (pp ((G1 0).b) 2),
        .ld 0 2 true (fun _ => Dat.cells (DBig.mk a_Q_Sign ⟨a_Q_Digits, a_Q_Digitss⟩)),
        .k (pp ((G1 1).b) 0),
        .ld 1 0 true (fun _ => Dat.cells (DBig.mk b_P_Sign ⟨b_P_Digits, b_P_Digitss⟩)),
        .ct g0 9 39 false [] [] [(kf false (.f 1) a_Q_Digits (fun _ => a_Q_Digitss)).a, (kf false (.f 2) b_P_Digits (fun _ => b_P_Digitss)).a] (fun _ G => times_ctv a_Q_Sign a_Q_Digits a_Q_Digitss b_P_Sign b_P_Digits b_P_Digitss (by omega) (by omega) n2 hn2 l2 hl2),
        .ct g0 10 38 false [] [] [(kf true (.g 4 0) l1 (fun G => (G 4).ss 0)).a, (kf true (.g 9 0) l2 (fun G => (G 9).ss 0)).a] (fun _ G => new_ctv n1 l1 ((G 4).ss 0) n2 l2 ((G 9).ss 0) (by omega) (by omega) n3 hn3 l3 hl3 n4 hn4 l4 hl4 n5 hn5),
        .v fun G => ag (DFrac.mk (DBig.mk n3 ⟨l3, (G 10).ss 0⟩) (DBig.mk n4 ⟨l4, (G 10).ss 1⟩)),
        .k (iv n5),
        .st 2 (fun G => .blk ((G1 2).b) (ca (DFrac.mk (DBig.mk n3 ⟨l3, (G 10).ss 0⟩) (DBig.mk n4 ⟨l4, (G 10).ss 1⟩))) 33),
        .k (iv n5)] (fun _ _ => by kernel_rfl) fun _ _ G6 kw6 => ?_
      intro S6 t6
      obtain ⟨⟨kl5, -⟩, ⟨kl6, -⟩, ⟨kl7, -⟩, ⟨kl8, -⟩, -⟩ : Lq l1 (((G6 4).ss 0).v) ∧ Lq l2 (((G6 9).ss 0).v) ∧ Lq l3 (((G6 10).ss 0).v) ∧ Lq l4 (((G6 10).ss 1).v) ∧ True := kn kw6 (by kernel_rfl)
      clear kw6
      have e1 : l3 = Fr.rD ((Fr.FrB a_P_Sign a_P_Digits a_Q_Sign a_Q_Digits ∧ Fr.FrB b_P_Sign b_P_Digits b_Q_Sign b_Q_Digits) ∧ b_P_Sign ≠ 0) ((Fr.fq a_P_Sign a_P_Digits a_Q_Digits) / (Fr.fq b_P_Sign b_P_Digits b_Q_Digits)) := by
        exact (Fr.Fz.ret zf ⟨hRR, hz0⟩ (heq)).2.1
      subst e1
      have e3 : l4 = Fr.rE ((Fr.FrB a_P_Sign a_P_Digits a_Q_Sign a_Q_Digits ∧ Fr.FrB b_P_Sign b_P_Digits b_Q_Sign b_Q_Digits) ∧ b_P_Sign ≠ 0) ((Fr.fq a_P_Sign a_P_Digits a_Q_Digits) / (Fr.fq b_P_Sign b_P_Digits b_Q_Digits)) := by
        exact (Fr.Fz.ret zf ⟨hRR, hz0⟩ (heq)).2.2.2
      subst e3
      have e0 : n3 = Fr.rS ((Fr.FrB a_P_Sign a_P_Digits a_Q_Sign a_Q_Digits ∧ Fr.FrB b_P_Sign b_P_Digits b_Q_Sign b_Q_Digits) ∧ b_P_Sign ≠ 0) ((Fr.fq a_P_Sign a_P_Digits a_Q_Digits) / (Fr.fq b_P_Sign b_P_Digits b_Q_Digits)) := by
        exact (Fr.Fz.ret zf ⟨hRR, hz0⟩ (heq)).1
      have e2 : n4 = Fr.rT ((Fr.FrB a_P_Sign a_P_Digits a_Q_Sign a_Q_Digits ∧ Fr.FrB b_P_Sign b_P_Digits b_Q_Sign b_Q_Digits) ∧ b_P_Sign ≠ 0) := by
        exact (Fr.Fz.ret zf ⟨hRR, hz0⟩ (heq)).2.2.1
      have e4 : n5 = if ¬ (Fr.FrB a_P_Sign a_P_Digits a_Q_Sign a_Q_Digits ∧ Fr.FrB b_P_Sign b_P_Digits b_Q_Sign b_Q_Digits) then (1 : Int) else if b_P_Sign = 0 then 15 else 0 := by
        rw [if_neg (fun h => h hRR), if_neg hz0]; exact hEr
      exact V.ret [2, 0] [(G6 10).ss 0, (G6 10).ss 1] [fun _ => {}, fun _ => {}] [] [6, 7] [] (.tuple #[ag (DFrac.mk (DBig.mk n3 ⟨(Fr.rD ((Fr.FrB a_P_Sign a_P_Digits a_Q_Sign a_Q_Digits ∧ Fr.FrB b_P_Sign b_P_Digits b_Q_Sign b_Q_Digits) ∧ b_P_Sign ≠ 0) ((Fr.fq a_P_Sign a_P_Digits a_Q_Digits) / (Fr.fq b_P_Sign b_P_Digits b_Q_Digits))), (G6 10).ss 0⟩) (DBig.mk n4 ⟨(Fr.rE ((Fr.FrB a_P_Sign a_P_Digits a_Q_Sign a_Q_Digits ∧ Fr.FrB b_P_Sign b_P_Digits b_Q_Sign b_Q_Digits) ∧ b_P_Sign ≠ 0) ((Fr.fq a_P_Sign a_P_Digits a_Q_Digits) / (Fr.fq b_P_Sign b_P_Digits b_Q_Digits))), (G6 10).ss 1⟩)), iv n5]) (fun _ _ => by kernel_rfl) (fun _ _ => (Eq.trans (by kernel_rfl) (cong3 (fun (x0 : Int) (x2 : Int) (x4 : Int) => (.tuple #[.agg #[iv x0, ((G6 10).ss 0).v, iv x2, ((G6 10).ss 1).v], iv x4] : Value)) e0 e2 e4)).trans (by kernel_rfl)) (fun _ _ => trivial)
theorem fdiv_ctv (a_P_Sign : Int) (a_P_Digits : List Int) (a_P_Digitss : SV) (a_Q_Sign : Int) (a_Q_Digits : List Int) (a_Q_Digitss : SV) (b_P_Sign : Int) (b_P_Digits : List Int) (b_P_Digitss : SV) (b_Q_Sign : Int) (b_Q_Digits : List Int) (b_Q_Digitss : SV) (haP : a_P_Digits.length ≤ 17179869184) (haQ : a_Q_Digits.length ≤ 17179869184) (hbP : b_P_Digits.length ≤ 17179869184) (hbQ : b_Q_Digits.length ≤ 17179869184) (rv0 : Int) (erv0 : rv0 = Fr.rS ((Fr.FrB a_P_Sign a_P_Digits a_Q_Sign a_Q_Digits ∧ Fr.FrB b_P_Sign b_P_Digits b_Q_Sign b_Q_Digits) ∧ b_P_Sign ≠ 0) ((Fr.fq a_P_Sign a_P_Digits a_Q_Digits) / (Fr.fq b_P_Sign b_P_Digits b_Q_Digits))) (rv1 : List Int) (erv1 : rv1 = Fr.rD ((Fr.FrB a_P_Sign a_P_Digits a_Q_Sign a_Q_Digits ∧ Fr.FrB b_P_Sign b_P_Digits b_Q_Sign b_Q_Digits) ∧ b_P_Sign ≠ 0) ((Fr.fq a_P_Sign a_P_Digits a_Q_Digits) / (Fr.fq b_P_Sign b_P_Digits b_Q_Digits))) (rv2 : Int) (erv2 : rv2 = Fr.rT ((Fr.FrB a_P_Sign a_P_Digits a_Q_Sign a_Q_Digits ∧ Fr.FrB b_P_Sign b_P_Digits b_Q_Sign b_Q_Digits) ∧ b_P_Sign ≠ 0)) (rv3 : List Int) (erv3 : rv3 = Fr.rE ((Fr.FrB a_P_Sign a_P_Digits a_Q_Sign a_Q_Digits ∧ Fr.FrB b_P_Sign b_P_Digits b_Q_Sign b_Q_Digits) ∧ b_P_Sign ≠ 0) ((Fr.fq a_P_Sign a_P_Digits a_Q_Digits) / (Fr.fq b_P_Sign b_P_Digits b_Q_Digits))) (rv4 : Int) (erv4 : rv4 = if ¬ (Fr.FrB a_P_Sign a_P_Digits a_Q_Sign a_Q_Digits ∧ Fr.FrB b_P_Sign b_P_Digits b_Q_Sign b_Q_Digits) then (1 : Int) else if b_P_Sign = 0 then 15 else 0) :
    Ct Try.prog 37 #[ag (DFrac.mk (DBig.mk a_P_Sign ⟨a_P_Digits, a_P_Digitss⟩) (DBig.mk a_Q_Sign ⟨a_Q_Digits, a_Q_Digitss⟩)), ag (DFrac.mk (DBig.mk b_P_Sign ⟨b_P_Digits, b_P_Digitss⟩) (DBig.mk b_Q_Sign ⟨b_Q_Digits, b_Q_Digitss⟩))] [fs true a_P_Digits a_P_Digitss, fs true a_Q_Digits a_Q_Digitss, fs true b_P_Digits b_P_Digitss, fs true b_Q_Digits b_Q_Digitss] [] (fun g => .tuple #[ag (DFrac.mk (DBig.mk rv0 ⟨rv1, (g.ss 0)⟩) (DBig.mk rv2 ⟨rv3, (g.ss 1)⟩)), iv rv4]) (fun g => [fs true rv1 (g.ss 0), fs true rv3 (g.ss 1)]) (fun g => []) (fun g => []) := by
  subst erv0 erv1 erv2 erv3 erv4; exact fdiv_ct a_P_Sign a_P_Digits a_P_Digitss a_Q_Sign a_Q_Digits a_Q_Digitss b_P_Sign b_P_Digits b_P_Digitss b_Q_Sign b_Q_Digits b_Q_Digitss haP haQ hbP hbQ

set_option maxRecDepth 10000 in
theorem fsign_ct (f_P_Sign : Int) (f_P_Digits : List Int) (f_P_Digitss : SV) (f_Q_Sign : Int) (f_Q_Digits : List Int) (f_Q_Digitss : SV) (hfP : f_P_Digits.length ≤ 17179869184) (hfQ : f_Q_Digits.length ≤ 17179869184) :
    Cp Try.prog 20 #[ag (DFrac.mk (DBig.mk f_P_Sign ⟨f_P_Digits, f_P_Digitss⟩) (DBig.mk f_Q_Sign ⟨f_Q_Digits, f_Q_Digitss⟩))] [fs true f_P_Digits f_P_Digitss, fs true f_Q_Digits f_Q_Digitss] (iv (if Fr.FrB f_P_Sign f_P_Digits f_Q_Sign f_Q_Digits then f_P_Sign else 0)) := by
  refine V.fn mo Try.func20 9 1 (by kernel_rfl) fun w H ε k0 => ?_
  obtain ⟨⟨kl1, -⟩, ⟨kl2, -⟩, -⟩ : Lq f_P_Digits f_P_Digitss.v ∧ Lq f_Q_Digits f_Q_Digitss.v ∧ True := kn k0 (by kernel_rfl)
  clear k0
  refine V.go [.nb 0 0 (fun b => pp b 0) 33 (fun _ => ca (DFrac.mk (DBig.mk f_P_Sign ⟨f_P_Digits, f_P_Digitss⟩) (DBig.mk f_Q_Sign ⟨f_Q_Digits, f_Q_Digitss⟩))),
    .k (iv 0)] (fun _ _ => by kernel_rfl) fun _ _ G1 => ?_
  intro S1 t1
  refine V.go [.ld 0 0 true (fun _ => Dat.cells (DFrac.mk (DBig.mk f_P_Sign ⟨f_P_Digits, f_P_Digitss⟩) (DBig.mk f_Q_Sign ⟨f_Q_Digits, f_Q_Digitss⟩))),
    .cp g0 1 19 [(kf false (.f 0) f_P_Digits (fun _ => f_P_Digitss)).a, (kf false (.f 1) f_Q_Digits (fun _ => f_Q_Digitss)).a] (fun _ G => right_ct f_P_Sign f_P_Digits f_P_Digitss f_Q_Sign f_Q_Digits f_Q_Digitss (by omega) (by omega)),
    .k (bv (!(decide (Fr.FrB f_P_Sign f_P_Digits f_Q_Sign f_Q_Digits))))] (fun _ _ => by kernel_rfl) fun _ _ G2 => ?_
  intro S2 t2
  refine V.cond (b := !(decide (Fr.FrB f_P_Sign f_P_Digits f_Q_Sign f_Q_Digits))) (iNT iDF) (iNF iDT) (by kernel_rfl) (fun q1 => ?_) (fun q2 => ?_)
  · skip
    refine V.go [.k (iv 0)] (fun _ _ => by kernel_rfl) fun _ _ G3 => ?_
    intro S3 t3
    have e0 : (0 : Int) = if Fr.FrB f_P_Sign f_P_Digits f_Q_Sign f_Q_Digits then f_P_Sign else 0 := by
      exact (if_neg q1).symm
    exact V.ret [0] [] [] [] [] [] (iv 0) (fun _ _ => by kernel_rfl) (fun _ _ => (Eq.trans (by kernel_rfl) (cong1 (fun (x0 : Int) => (iv x0 : Value)) e0)).trans (by kernel_rfl)) (fun _ _ => trivial)
  · skip
    refine V.go [.k (pp ((G1 0).b) 0),
      .k (pp ((G1 0).b) 0),
      .ld 0 0 false (fun _ => [iv f_P_Sign]),
      .k (iv f_P_Sign)] (fun _ _ => by kernel_rfl) fun _ _ G4 => ?_
    intro S4 t4
    have e0 : f_P_Sign = if Fr.FrB f_P_Sign f_P_Digits f_Q_Sign f_Q_Digits then f_P_Sign else 0 := by
      exact (if_pos (by first | exact q2 | exact Decidable.not_not.1 q2)).symm
    exact V.ret [0] [] [] [] [] [] (iv f_P_Sign) (fun _ _ => by kernel_rfl) (fun _ _ => (Eq.trans (by kernel_rfl) (cong1 (fun (x0 : Int) => (iv x0 : Value)) e0)).trans (by kernel_rfl)) (fun _ _ => trivial)
theorem fsign_ctv (f_P_Sign : Int) (f_P_Digits : List Int) (f_P_Digitss : SV) (f_Q_Sign : Int) (f_Q_Digits : List Int) (f_Q_Digitss : SV) (hfP : f_P_Digits.length ≤ 17179869184) (hfQ : f_Q_Digits.length ≤ 17179869184) (rv0 : Int) (erv0 : rv0 = if Fr.FrB f_P_Sign f_P_Digits f_Q_Sign f_Q_Digits then f_P_Sign else 0) :
    Cp Try.prog 20 #[ag (DFrac.mk (DBig.mk f_P_Sign ⟨f_P_Digits, f_P_Digitss⟩) (DBig.mk f_Q_Sign ⟨f_Q_Digits, f_Q_Digitss⟩))] [fs true f_P_Digits f_P_Digitss, fs true f_Q_Digits f_Q_Digitss] (iv rv0) := by
  subst erv0; exact fsign_ct f_P_Sign f_P_Digits f_P_Digitss f_Q_Sign f_Q_Digits f_Q_Digitss hfP hfQ

set_option maxRecDepth 10000 in
theorem fcmp_ct (a_P_Sign : Int) (a_P_Digits : List Int) (a_P_Digitss : SV) (a_Q_Sign : Int) (a_Q_Digits : List Int) (a_Q_Digitss : SV) (b_P_Sign : Int) (b_P_Digits : List Int) (b_P_Digitss : SV) (b_Q_Sign : Int) (b_Q_Digits : List Int) (b_Q_Digitss : SV) (haP : a_P_Digits.length ≤ 17179869184) (haQ : a_Q_Digits.length ≤ 17179869184) (hbP : b_P_Digits.length ≤ 17179869184) (hbQ : b_Q_Digits.length ≤ 17179869184) :
    Cp Try.prog 49 #[ag (DFrac.mk (DBig.mk a_P_Sign ⟨a_P_Digits, a_P_Digitss⟩) (DBig.mk a_Q_Sign ⟨a_Q_Digits, a_Q_Digitss⟩)), ag (DFrac.mk (DBig.mk b_P_Sign ⟨b_P_Digits, b_P_Digitss⟩) (DBig.mk b_Q_Sign ⟨b_Q_Digits, b_Q_Digitss⟩))] [fs true a_P_Digits a_P_Digitss, fs true a_Q_Digits a_Q_Digitss, fs true b_P_Digits b_P_Digitss, fs true b_Q_Digits b_Q_Digitss] (iv (if Fr.FrB a_P_Sign a_P_Digits a_Q_Sign a_Q_Digits ∧ Fr.FrB b_P_Sign b_P_Digits b_Q_Sign b_Q_Digits then Fr.cmpQ (Fr.fq a_P_Sign a_P_Digits a_Q_Digits) (Fr.fq b_P_Sign b_P_Digits b_Q_Digits) else 0)) := by
  refine V.fn mo Try.func49 24 2 (by kernel_rfl) fun w H ε k0 => ?_
  obtain ⟨⟨kl1, -⟩, ⟨kl2, -⟩, ⟨kl3, -⟩, ⟨kl4, -⟩, -⟩ : Lq a_P_Digits a_P_Digitss.v ∧ Lq a_Q_Digits a_Q_Digitss.v ∧ Lq b_P_Digits b_P_Digitss.v ∧ Lq b_Q_Digits b_Q_Digitss.v ∧ True := kn k0 (by kernel_rfl)
  clear k0
  refine V.go [.nb 0 0 (fun b => pp b 0) 33 (fun _ => ca (DFrac.mk (DBig.mk a_P_Sign ⟨a_P_Digits, a_P_Digitss⟩) (DBig.mk a_Q_Sign ⟨a_Q_Digits, a_Q_Digitss⟩))),
    .nb 1 1 (fun b => pp b 0) 33 (fun _ => ca (DFrac.mk (DBig.mk b_P_Sign ⟨b_P_Digits, b_P_Digitss⟩) (DBig.mk b_Q_Sign ⟨b_Q_Digits, b_Q_Digitss⟩))),
    .k (iv 0)] (fun _ _ => by kernel_rfl) fun _ _ G1 => ?_
  intro S1 t1
  refine nm ((!(decide (Fr.FrB a_P_Sign a_P_Digits a_Q_Sign a_Q_Digits))) || (!(decide (Fr.FrB b_P_Sign b_P_Digits b_Q_Sign b_Q_Digits))) : Bool) fun p1 hp1 => ?_
  refine V.go [.ld 0 0 true (fun _ => Dat.cells (DFrac.mk (DBig.mk a_P_Sign ⟨a_P_Digits, a_P_Digitss⟩) (DBig.mk a_Q_Sign ⟨a_Q_Digits, a_Q_Digitss⟩))),
    .cp g0 1 19 [(kf false (.f 0) a_P_Digits (fun _ => a_P_Digitss)).a, (kf false (.f 1) a_Q_Digits (fun _ => a_Q_Digitss)).a] (fun _ G => right_ct a_P_Sign a_P_Digits a_P_Digitss a_Q_Sign a_Q_Digits a_Q_Digitss (by omega) (by omega)),
    .k (bv (!(decide (Fr.FrB a_P_Sign a_P_Digits a_Q_Sign a_Q_Digits)))),
    .k (bv (!(decide (Fr.FrB a_P_Sign a_P_Digits a_Q_Sign a_Q_Digits)))),
    .ld 1 0 true (fun _ => Dat.cells (DFrac.mk (DBig.mk b_P_Sign ⟨b_P_Digits, b_P_Digitss⟩) (DBig.mk b_Q_Sign ⟨b_Q_Digits, b_Q_Digitss⟩))),
    .cp (gF (b := !(decide (Fr.FrB a_P_Sign a_P_Digits a_Q_Sign a_Q_Digits))) (iNF iDT)) 5 19 [(kf false (.f 2) b_P_Digits (fun _ => b_P_Digitss)).a, (kf false (.f 3) b_Q_Digits (fun _ => b_Q_Digitss)).a] (fun hg G => right_ct b_P_Sign b_P_Digits b_P_Digitss b_Q_Sign b_Q_Digits b_Q_Digitss (by omega) (by omega)),
    .k (bv (!(decide (Fr.FrB b_P_Sign b_P_Digits b_Q_Sign b_Q_Digits)))),
    .orn g0 false (!(decide (Fr.FrB a_P_Sign a_P_Digits a_Q_Sign a_Q_Digits))) (!(decide (Fr.FrB b_P_Sign b_P_Digits b_Q_Sign b_Q_Digits))) p1 hp1] (fun _ _ => by kernel_rfl) fun _ _ G2 => ?_
  intro S2 t2
  refine V.cond (b := p1) (iN hp1 (iOT (iNT iDF) (iNT iDF))) (iN hp1 (iOF (iNF iDT) (iNF iDT))) (by kernel_rfl) (fun q1 => ?_) (fun q2 => ?_)
  · skip
    have hNR : ¬ (Fr.FrB a_P_Sign a_P_Digits a_Q_Sign a_Q_Digits ∧ Fr.FrB b_P_Sign b_P_Digits b_Q_Sign b_Q_Digits) := by rintro ⟨h1, h2⟩; rcases q1 with h | h; exact h h1; exact h h2
    refine V.go [.k (iv 0)] (fun _ _ => by kernel_rfl) fun _ _ G3 => ?_
    intro S3 t3
    have e0 : (0 : Int) = if Fr.FrB a_P_Sign a_P_Digits a_Q_Sign a_Q_Digits ∧ Fr.FrB b_P_Sign b_P_Digits b_Q_Sign b_Q_Digits then Fr.cmpQ (Fr.fq a_P_Sign a_P_Digits a_Q_Digits) (Fr.fq b_P_Sign b_P_Digits b_Q_Digits) else 0 := by
      exact (if_neg hNR).symm
    exact V.ret [0] [] [] [] [] [] (iv 0) (fun _ _ => by kernel_rfl) (fun _ _ => (Eq.trans (by kernel_rfl) (cong1 (fun (x0 : Int) => (iv x0 : Value)) e0)).trans (by kernel_rfl)) (fun _ _ => trivial)
  · skip
    have hRR : Fr.FrB a_P_Sign a_P_Digits a_Q_Sign a_Q_Digits ∧ Fr.FrB b_P_Sign b_P_Digits b_Q_Sign b_Q_Digits := by first | exact q2 | exact ⟨Decidable.not_not.1 (q2).1, Decidable.not_not.1 (q2).2⟩
    have fa := Fr.FrB.z hRR.1; have fb := Fr.FrB.z hRR.2
    refine nm (Bg.oS (Bg.RtB a_P_Sign a_P_Digits ∧ Bg.RtB b_Q_Sign b_Q_Digits) (Bg.zv a_P_Sign a_P_Digits * Bg.zv b_Q_Sign b_Q_Digits) : Int) fun n1 hn1 => ?_
    refine nm (Bg.oD (Bg.RtB a_P_Sign a_P_Digits ∧ Bg.RtB b_Q_Sign b_Q_Digits) (Bg.zv a_P_Sign a_P_Digits * Bg.zv b_Q_Sign b_Q_Digits) : List Int) fun l1 hl1 => ?_
    have hl1n := congrArg List.length hl1
    refine nm (Bg.oS (Bg.RtB b_P_Sign b_P_Digits ∧ Bg.RtB a_Q_Sign a_Q_Digits) (Bg.zv b_P_Sign b_P_Digits * Bg.zv a_Q_Sign a_Q_Digits) : Int) fun n2 hn2 => ?_
    refine nm (Bg.oD (Bg.RtB b_P_Sign b_P_Digits ∧ Bg.RtB a_Q_Sign a_Q_Digits) (Bg.zv b_P_Sign b_P_Digits * Bg.zv a_Q_Sign a_Q_Digits) : List Int) fun l2 hl2 => ?_
    have hl2n := congrArg List.length hl2
    refine nm (if (Bg.RtB n1 l1 ∧ Bg.RtB n2 l2) then Bg.cmpI (Bg.zv n1 l1) (Bg.zv n2 l2) else 0 : Int) fun n3 hn3 => ?_
    obtain ⟨z4, z4l⟩ := Fr.Bz.mul fa.p fb.q hn1 hl1
    obtain ⟨z9, z9l⟩ := Fr.Bz.mul fb.p fa.q hn2 hl2
    refine V.reg [.k (pp ((G1 0).b) 0),
      .ld 0 0 true (fun _ => Dat.cells (DBig.mk a_P_Sign ⟨a_P_Digits, a_P_Digitss⟩)),
      .k (pp ((G1 1).b) 2),
      .ld 1 2 true (fun _ => Dat.cells (DBig.mk b_Q_Sign ⟨b_Q_Digits, b_Q_Digitss⟩)),
      .ct g0 4 39 false [] [] [(kf false (.f 0) a_P_Digits (fun _ => a_P_Digitss)).a, (kf false (.f 3) b_Q_Digits (fun _ => b_Q_Digitss)).a] (fun _ G => times_ctv a_P_Sign a_P_Digits a_P_Digitss b_Q_Sign b_Q_Digits b_Q_Digitss (by omega) (by omega) n1 hn1 l1 hl1),
      .k (pp ((G1 1).b) 0),
      .ld 1 0 true (fun _ => Dat.cells (DBig.mk b_P_Sign ⟨b_P_Digits, b_P_Digitss⟩)),
      .k (pp ((G1 0).b) 2),
      .ld 0 2 true (fun _ => Dat.cells (DBig.mk a_Q_Sign ⟨a_Q_Digits, a_Q_Digitss⟩)),
      .ct g0 9 39 false [] [] [(kf false (.f 2) b_P_Digits (fun _ => b_P_Digitss)).a, (kf false (.f 1) a_Q_Digits (fun _ => a_Q_Digitss)).a] (fun _ G => times_ctv b_P_Sign b_P_Digits b_P_Digitss a_Q_Sign a_Q_Digits a_Q_Digitss (by omega) (by omega) n2 hn2 l2 hl2),
      .cp g0 10 87 [(kf true (.g 4 0) l1 (fun G => (G 4).ss 0)).a, (kf true (.g 9 0) l2 (fun G => (G 9).ss 0)).a] (fun _ G => Cmp_ctv n1 l1 ((G 4).ss 0) n2 l2 ((G 9).ss 0) n3 hn3),
      .k (iv n3)] (fun _ _ => by kernel_rfl) fun _ _ G4 kw4 => ?_
    intro S4 t4
    obtain ⟨⟨kl5, -⟩, ⟨kl6, -⟩, -⟩ : Lq l1 (((G4 4).ss 0).v) ∧ Lq l2 (((G4 9).ss 0).v) ∧ True := kn kw4 (by kernel_rfl)
    clear kw4
    have e0 : n3 = if Fr.FrB a_P_Sign a_P_Digits a_Q_Sign a_Q_Digits ∧ Fr.FrB b_P_Sign b_P_Digits b_Q_Sign b_Q_Digits then Fr.cmpQ (Fr.fq a_P_Sign a_P_Digits a_Q_Digits) (Fr.fq b_P_Sign b_P_Digits b_Q_Digits) else 0 := by
      rw [if_pos hRR, hn3, if_pos ⟨z4.rt, z9.rt⟩, z4.v, z9.v]; exact Fr.cmpQ_is _ _
    exact V.ret [0] [] [] [] [] [] (iv n3) (fun _ _ => by kernel_rfl) (fun _ _ => (Eq.trans (by kernel_rfl) (cong1 (fun (x0 : Int) => (iv x0 : Value)) e0)).trans (by kernel_rfl)) (fun _ _ => trivial)
theorem fcmp_ctv (a_P_Sign : Int) (a_P_Digits : List Int) (a_P_Digitss : SV) (a_Q_Sign : Int) (a_Q_Digits : List Int) (a_Q_Digitss : SV) (b_P_Sign : Int) (b_P_Digits : List Int) (b_P_Digitss : SV) (b_Q_Sign : Int) (b_Q_Digits : List Int) (b_Q_Digitss : SV) (haP : a_P_Digits.length ≤ 17179869184) (haQ : a_Q_Digits.length ≤ 17179869184) (hbP : b_P_Digits.length ≤ 17179869184) (hbQ : b_Q_Digits.length ≤ 17179869184) (rv0 : Int) (erv0 : rv0 = if Fr.FrB a_P_Sign a_P_Digits a_Q_Sign a_Q_Digits ∧ Fr.FrB b_P_Sign b_P_Digits b_Q_Sign b_Q_Digits then Fr.cmpQ (Fr.fq a_P_Sign a_P_Digits a_Q_Digits) (Fr.fq b_P_Sign b_P_Digits b_Q_Digits) else 0) :
    Cp Try.prog 49 #[ag (DFrac.mk (DBig.mk a_P_Sign ⟨a_P_Digits, a_P_Digitss⟩) (DBig.mk a_Q_Sign ⟨a_Q_Digits, a_Q_Digitss⟩)), ag (DFrac.mk (DBig.mk b_P_Sign ⟨b_P_Digits, b_P_Digitss⟩) (DBig.mk b_Q_Sign ⟨b_Q_Digits, b_Q_Digitss⟩))] [fs true a_P_Digits a_P_Digitss, fs true a_Q_Digits a_Q_Digitss, fs true b_P_Digits b_P_Digitss, fs true b_Q_Digits b_Q_Digitss] (iv rv0) := by
  subst erv0; exact fcmp_ct a_P_Sign a_P_Digits a_P_Digitss a_Q_Sign a_Q_Digits a_Q_Digitss b_P_Sign b_P_Digits b_P_Digitss b_Q_Sign b_Q_Digits b_Q_Digitss haP haQ hbP hbQ

set_option maxRecDepth 10000 in
theorem ffloor_ct (f_P_Sign : Int) (f_P_Digits : List Int) (f_P_Digitss : SV) (f_Q_Sign : Int) (f_Q_Digits : List Int) (f_Q_Digitss : SV) (hfP : f_P_Digits.length ≤ 17179869184) (hfQ : f_Q_Digits.length ≤ 17179869184) :
    Ct Try.prog 45 #[ag (DFrac.mk (DBig.mk f_P_Sign ⟨f_P_Digits, f_P_Digitss⟩) (DBig.mk f_Q_Sign ⟨f_Q_Digits, f_Q_Digitss⟩))] [fs true f_P_Digits f_P_Digitss, fs true f_Q_Digits f_Q_Digitss] [] (fun g => ag (DBig.mk (Bg.oS (Fr.FrB f_P_Sign f_P_Digits f_Q_Sign f_Q_Digits) (Fr.fq f_P_Sign f_P_Digits f_Q_Digits).floor) ⟨Bg.oD (Fr.FrB f_P_Sign f_P_Digits f_Q_Sign f_Q_Digits) (Fr.fq f_P_Sign f_P_Digits f_Q_Digits).floor, (g.ss 0)⟩)) (fun g => [fs true (Bg.oD (Fr.FrB f_P_Sign f_P_Digits f_Q_Sign f_Q_Digits) (Fr.fq f_P_Sign f_P_Digits f_Q_Digits).floor) (g.ss 0)]) (fun g => []) (fun g => []) := by
  refine V.fn mo Try.func45 20 4 (by kernel_rfl) fun w H ε k0 => ?_
  obtain ⟨⟨kl1, -⟩, ⟨kl2, -⟩, -⟩ : Lq f_P_Digits f_P_Digitss.v ∧ Lq f_Q_Digits f_Q_Digitss.v ∧ True := kn k0 (by kernel_rfl)
  clear k0
  refine V.go [.nb 0 0 (fun b => pp b 0) 33 (fun _ => ca (DFrac.mk (DBig.mk f_P_Sign ⟨f_P_Digits, f_P_Digitss⟩) (DBig.mk f_Q_Sign ⟨f_Q_Digits, f_Q_Digitss⟩))),
    .nb 1 1 (fun b => pp b 0) 31 (fun _ => ca (DBig.mk 0 ⟨[], {}⟩))] (fun _ _ => by kernel_rfl) fun _ _ G1 => ?_
  intro S1 t1
  refine V.go [.ld 0 0 true (fun _ => Dat.cells (DFrac.mk (DBig.mk f_P_Sign ⟨f_P_Digits, f_P_Digitss⟩) (DBig.mk f_Q_Sign ⟨f_Q_Digits, f_Q_Digitss⟩))),
    .cp g0 1 19 [(kf false (.f 0) f_P_Digits (fun _ => f_P_Digitss)).a, (kf false (.f 1) f_Q_Digits (fun _ => f_Q_Digitss)).a] (fun _ G => right_ct f_P_Sign f_P_Digits f_P_Digitss f_Q_Sign f_Q_Digits f_Q_Digitss (by omega) (by omega)),
    .k (bv (!(decide (Fr.FrB f_P_Sign f_P_Digits f_Q_Sign f_Q_Digits))))] (fun _ _ => by kernel_rfl) fun _ _ G2 => ?_
  intro S2 t2
  refine V.cond (b := !(decide (Fr.FrB f_P_Sign f_P_Digits f_Q_Sign f_Q_Digits))) (iNT iDF) (iNF iDT) (by kernel_rfl) (fun q1 => ?_) (fun q2 => ?_)
  · skip
    refine V.go [.k (ag (DBig.mk 0 ⟨[], {}⟩)),
      .st 1 (fun _ => .blk ((G1 1).b) (ca (DBig.mk 0 ⟨[], {}⟩)) 31)] (fun _ _ => by kernel_rfl) fun _ _ G3 => ?_
    intro S3 t3
    refine V.nilF (α := Int) ?_
    have e1 : ([] : List Int) = Bg.oD (Fr.FrB f_P_Sign f_P_Digits f_Q_Sign f_Q_Digits) (Fr.fq f_P_Sign f_P_Digits f_Q_Digits).floor := by
      exact (Bg.oD_n q1 _).symm
    rw [← e1]
    have e0 : (0 : Int) = Bg.oS (Fr.FrB f_P_Sign f_P_Digits f_Q_Sign f_Q_Digits) (Fr.fq f_P_Sign f_P_Digits f_Q_Digits).floor := by
      exact (Bg.oS_n q1 _).symm
    exact V.ret [1] [{}] [fun _ => {}] [] [2] [] (ag (DBig.mk 0 ⟨([] : List Int), {}⟩)) (fun _ _ => by kernel_rfl) (fun _ _ => (Eq.trans (by kernel_rfl) (cong1 (fun (x0 : Int) => (.agg #[iv x0, SV.v ({})] : Value)) e0)).trans (by kernel_rfl)) (fun _ _ => trivial)
  · skip
    refine nm (Bg.oS ((Bg.RtB f_P_Sign f_P_Digits ∧ Bg.RtB f_Q_Sign f_Q_Digits) ∧ f_Q_Sign ≠ 0) (Bg.flo (Bg.zv f_P_Sign f_P_Digits) (Bg.zv f_Q_Sign f_Q_Digits)) : Int) fun n1 hn1 => ?_
    refine nm (Bg.oD ((Bg.RtB f_P_Sign f_P_Digits ∧ Bg.RtB f_Q_Sign f_Q_Digits) ∧ f_Q_Sign ≠ 0) (Bg.flo (Bg.zv f_P_Sign f_P_Digits) (Bg.zv f_Q_Sign f_Q_Digits)) : List Int) fun l1 hl1 => ?_
    have hl1n := congrArg List.length hl1
    refine nm (Bg.oS ((Bg.RtB f_P_Sign f_P_Digits ∧ Bg.RtB f_Q_Sign f_Q_Digits) ∧ f_Q_Sign ≠ 0) (Bg.fmo (Bg.zv f_P_Sign f_P_Digits) (Bg.zv f_Q_Sign f_Q_Digits)) : Int) fun n2 hn2 => ?_
    refine nm (Bg.oD ((Bg.RtB f_P_Sign f_P_Digits ∧ Bg.RtB f_Q_Sign f_Q_Digits) ∧ f_Q_Sign ≠ 0) (Bg.fmo (Bg.zv f_P_Sign f_P_Digits) (Bg.zv f_Q_Sign f_Q_Digits)) : List Int) fun l2 hl2 => ?_
    have hl2n := congrArg List.length hl2
    refine nm (if ¬ (Bg.RtB f_P_Sign f_P_Digits ∧ Bg.RtB f_Q_Sign f_Q_Digits) then (1 : Int) else if f_Q_Sign = 0 then 15 else 0 : Int) fun n3 hn3 => ?_
    have hFF : Fr.FrB f_P_Sign f_P_Digits f_Q_Sign f_Q_Digits := by first | exact q2 | exact Decidable.not_not.1 q2
    have ff := Fr.FrB.z hFF
    have zd := Fr.Bz.div ff.p ff.q (by have := (Fr.fq f_P_Sign f_P_Digits f_Q_Digits).den_pos; omega) hn1 hl1
    have hfe := Rat.floor_def (Fr.fq f_P_Sign f_P_Digits f_Q_Digits)
    rw [← hfe] at zd
    have hfe : (Fr.fq f_P_Sign f_P_Digits f_Q_Digits).floor = (Fr.fq f_P_Sign f_P_Digits f_Q_Digits).floor := rfl
    refine V.reg [.k (pp ((G1 0).b) 0),
      .ld 0 0 true (fun _ => Dat.cells (DBig.mk f_P_Sign ⟨f_P_Digits, f_P_Digitss⟩)),
      .k (pp ((G1 0).b) 2),
      .ld 0 2 true (fun _ => Dat.cells (DBig.mk f_Q_Sign ⟨f_Q_Digits, f_Q_Digitss⟩)),
      .ct g0 4 77 false [] [] [(kf false (.f 0) f_P_Digits (fun _ => f_P_Digitss)).a, (kf false (.f 1) f_Q_Digits (fun _ => f_Q_Digitss)).a] (fun _ G => Div_ctv f_P_Sign f_P_Digits f_P_Digitss f_Q_Sign f_Q_Digits f_Q_Digitss (by omega) (by omega) n1 hn1 l1 hl1 n2 hn2 l2 hl2 n3 hn3),
      .v fun G => .tuple #[ag (DBig.mk n1 ⟨l1, (G 4).ss 0⟩), ag (DBig.mk n2 ⟨l2, (G 4).ss 1⟩), iv n3],
      .v fun G => ag (DBig.mk n1 ⟨l1, (G 4).ss 0⟩),
      .v fun G => ag (DBig.mk n2 ⟨l2, (G 4).ss 1⟩),
      .k (iv n3),
      .nb 9 2 (fun b => pp b 0) 31 (fun _ => ca (DBig.mk 0 ⟨[], {}⟩)),
      .nb 10 3 (fun b => pp b 0) 31 (fun _ => ca (DBig.mk 0 ⟨[], {}⟩)),
      .st 2 (fun G => .blk ((G 9).b) (ca (DBig.mk n1 ⟨l1, (G 4).ss 0⟩)) 31),
      .st 3 (fun G => .blk ((G 10).b) (ca (DBig.mk n2 ⟨l2, (G 4).ss 1⟩)) 31),
      .k (iv n3)] (fun _ _ => by kernel_rfl) fun _ _ G4 kw4 => ?_
    intro S4 t4
    obtain ⟨⟨kl3, -⟩, ⟨kl4, -⟩, -⟩ : Lq l1 (((G4 4).ss 0).v) ∧ Lq l2 (((G4 4).ss 1).v) ∧ True := kn kw4 (by kernel_rfl)
    clear kw4
    refine V.go [.ld 2 0 true (fun _ => Dat.cells (DBig.mk n1 ⟨l1, (G4 4).ss 0⟩)),
      .st 1 (fun _ => .blk ((G1 1).b) (ca (DBig.mk n1 ⟨l1, (G4 4).ss 0⟩)) 31)] (fun _ _ => by kernel_rfl) fun _ _ G5 => ?_
    intro S5 t5
    have e1 : l1 = Bg.oD (Fr.FrB f_P_Sign f_P_Digits f_Q_Sign f_Q_Digits) (Fr.fq f_P_Sign f_P_Digits f_Q_Digits).floor := by
      rw [Bg.oD_y hFF, ← hfe]; exact zd.eqs.2
    subst e1
    have e0 : n1 = Bg.oS (Fr.FrB f_P_Sign f_P_Digits f_Q_Sign f_Q_Digits) (Fr.fq f_P_Sign f_P_Digits f_Q_Digits).floor := by
      rw [Bg.oS_y hFF, ← hfe]; exact zd.eqs.1
    exact V.ret [1] [(G4 4).ss 0] [fun _ => {}] [] [2] [] (ag (DBig.mk n1 ⟨(Bg.oD (Fr.FrB f_P_Sign f_P_Digits f_Q_Sign f_Q_Digits) (Fr.fq f_P_Sign f_P_Digits f_Q_Digits).floor), (G4 4).ss 0⟩)) (fun _ _ => by kernel_rfl) (fun _ _ => (Eq.trans (by kernel_rfl) (cong1 (fun (x0 : Int) => (.agg #[iv x0, ((G4 4).ss 0).v] : Value)) e0)).trans (by kernel_rfl)) (fun _ _ => trivial)
theorem ffloor_ctv (f_P_Sign : Int) (f_P_Digits : List Int) (f_P_Digitss : SV) (f_Q_Sign : Int) (f_Q_Digits : List Int) (f_Q_Digitss : SV) (hfP : f_P_Digits.length ≤ 17179869184) (hfQ : f_Q_Digits.length ≤ 17179869184) (rv0 : Int) (erv0 : rv0 = Bg.oS (Fr.FrB f_P_Sign f_P_Digits f_Q_Sign f_Q_Digits) (Fr.fq f_P_Sign f_P_Digits f_Q_Digits).floor) (rv1 : List Int) (erv1 : rv1 = Bg.oD (Fr.FrB f_P_Sign f_P_Digits f_Q_Sign f_Q_Digits) (Fr.fq f_P_Sign f_P_Digits f_Q_Digits).floor) :
    Ct Try.prog 45 #[ag (DFrac.mk (DBig.mk f_P_Sign ⟨f_P_Digits, f_P_Digitss⟩) (DBig.mk f_Q_Sign ⟨f_Q_Digits, f_Q_Digitss⟩))] [fs true f_P_Digits f_P_Digitss, fs true f_Q_Digits f_Q_Digitss] [] (fun g => ag (DBig.mk rv0 ⟨rv1, (g.ss 0)⟩)) (fun g => [fs true rv1 (g.ss 0)]) (fun g => []) (fun g => []) := by
  subst erv0 erv1; exact ffloor_ct f_P_Sign f_P_Digits f_P_Digitss f_Q_Sign f_Q_Digits f_Q_Digitss hfP hfQ

set_option maxRecDepth 10000 in
theorem fsame_ct (a_P_Sign : Int) (a_P_Digits : List Int) (a_P_Digitss : SV) (a_Q_Sign : Int) (a_Q_Digits : List Int) (a_Q_Digitss : SV) (b_P_Sign : Int) (b_P_Digits : List Int) (b_P_Digitss : SV) (b_Q_Sign : Int) (b_Q_Digits : List Int) (b_Q_Digitss : SV) :
    Cp Try.prog 21 #[ag (DFrac.mk (DBig.mk a_P_Sign ⟨a_P_Digits, a_P_Digitss⟩) (DBig.mk a_Q_Sign ⟨a_Q_Digits, a_Q_Digitss⟩)), ag (DFrac.mk (DBig.mk b_P_Sign ⟨b_P_Digits, b_P_Digitss⟩) (DBig.mk b_Q_Sign ⟨b_Q_Digits, b_Q_Digitss⟩))] [fs true a_P_Digits a_P_Digitss, fs true a_Q_Digits a_Q_Digitss, fs true b_P_Digits b_P_Digitss, fs true b_Q_Digits b_Q_Digitss] (bv (decide (a_P_Sign = b_P_Sign ∧ a_P_Digits = b_P_Digits ∧ a_Q_Sign = b_Q_Sign ∧ a_Q_Digits = b_Q_Digits))) := by
  refine V.fn mo Try.func21 17 2 (by kernel_rfl) fun w H ε k0 => ?_
  obtain ⟨⟨kl1, -⟩, ⟨kl2, -⟩, ⟨kl3, -⟩, ⟨kl4, -⟩, -⟩ : Lq a_P_Digits a_P_Digitss.v ∧ Lq a_Q_Digits a_Q_Digitss.v ∧ Lq b_P_Digits b_P_Digitss.v ∧ Lq b_Q_Digits b_Q_Digitss.v ∧ True := kn k0 (by kernel_rfl)
  clear k0
  refine V.go [.nb 0 0 (fun b => pp b 0) 33 (fun _ => ca (DFrac.mk (DBig.mk a_P_Sign ⟨a_P_Digits, a_P_Digitss⟩) (DBig.mk a_Q_Sign ⟨a_Q_Digits, a_Q_Digitss⟩))),
    .nb 1 1 (fun b => pp b 0) 33 (fun _ => ca (DFrac.mk (DBig.mk b_P_Sign ⟨b_P_Digits, b_P_Digitss⟩) (DBig.mk b_Q_Sign ⟨b_Q_Digits, b_Q_Digitss⟩))),
    .kb false] (fun _ _ => by kernel_rfl) fun _ _ G1 => ?_
  intro S1 t1
  refine nm ((decide (a_P_Sign = b_P_Sign ∧ a_P_Digits = b_P_Digits)) && (decide (a_Q_Sign = b_Q_Sign ∧ a_Q_Digits = b_Q_Digits)) : Bool) fun p1 hp1 => ?_
  refine V.go [.k (pp ((G1 0).b) 0),
    .ld 0 0 true (fun _ => Dat.cells (DBig.mk a_P_Sign ⟨a_P_Digits, a_P_Digitss⟩)),
    .k (pp ((G1 1).b) 0),
    .ld 1 0 true (fun _ => Dat.cells (DBig.mk b_P_Sign ⟨b_P_Digits, b_P_Digitss⟩)),
    .cp g0 4 54 [(kf false (.f 0) a_P_Digits (fun _ => a_P_Digitss)).a, (kf false (.f 2) b_P_Digits (fun _ => b_P_Digitss)).a] (fun _ G => same_ct a_P_Sign a_P_Digits a_P_Digitss b_P_Sign b_P_Digits b_P_Digitss),
    .k (bv (decide (a_P_Sign = b_P_Sign ∧ a_P_Digits = b_P_Digits))),
    .k (pp ((G1 0).b) 2),
    .ld 0 2 true (fun _ => Dat.cells (DBig.mk a_Q_Sign ⟨a_Q_Digits, a_Q_Digitss⟩)),
    .k (pp ((G1 1).b) 2),
    .ld 1 2 true (fun _ => Dat.cells (DBig.mk b_Q_Sign ⟨b_Q_Digits, b_Q_Digitss⟩)),
    .cp (gT (b := decide (a_P_Sign = b_P_Sign ∧ a_P_Digits = b_P_Digits)) iDT) 10 54 [(kf false (.f 1) a_Q_Digits (fun _ => a_Q_Digitss)).a, (kf false (.f 3) b_Q_Digits (fun _ => b_Q_Digitss)).a] (fun hg G => same_ct a_Q_Sign a_Q_Digits a_Q_Digitss b_Q_Sign b_Q_Digits b_Q_Digitss),
    .andn g0 false (decide (a_P_Sign = b_P_Sign ∧ a_P_Digits = b_P_Digits)) (decide (a_Q_Sign = b_Q_Sign ∧ a_Q_Digits = b_Q_Digits)) p1 hp1,
    .k (bv p1)] (fun _ _ => by kernel_rfl) fun _ _ G2 => ?_
  intro S2 t2
  have e0 : p1 = decide (a_P_Sign = b_P_Sign ∧ a_P_Digits = b_P_Digits ∧ a_Q_Sign = b_Q_Sign ∧ a_Q_Digits = b_Q_Digits) := by
    refine Bool.eq_iff_iff.2 (Iff.trans (iN hp1 (iAT iDT iDT)) (Iff.trans ?_ decide_eq_true_iff.symm))
    exact and_assoc
  exact V.ret [0] [] [] [] [] [] (bv p1) (fun _ _ => by kernel_rfl) (fun _ _ => (Eq.trans (by kernel_rfl) (cong1 (fun (x0 : Bool) => (bv x0 : Value)) e0)).trans (by kernel_rfl)) (fun _ _ => trivial)

end Kb
set_option linter.unusedVariables false
set_option linter.unusedSectionVars false
set_option linter.unusedSimpArgs false
namespace Kb
namespace Fr
open Bg
def rt (x : DFrac) : Prop := FrB x.P.Sign x.P.Digits.l x.Q.Sign x.Q.Digits.l
instance (x : DFrac) : Decidable (rt x) := by unfold rt; infer_instance
def qv (x : DFrac) : Rat := fq x.P.Sign x.P.Digits.l x.Q.Digits.l
def ln (k : Nat) (x : DFrac) : Prop := x.P.Digits.l.length ≤ k ∧ x.Q.Digits.l.length ≤ k
/-- the fraction r, at these slices -/
def fmk (r : Rat) (s1 s2 : SV) : DFrac := ⟨⟨sgn r.num, ⟨dig r.num.natAbs, s1⟩⟩, ⟨1, ⟨dig r.den, s2⟩⟩⟩
theorem rt_fmk (r : Rat) (s1 s2 : SV) : rt (fmk r s1 s2) := FrB.of r
theorem qv_fmk (r : Rat) (s1 s2 : SV) : qv (fmk r s1 s2) = r := fq_of r
theorem ln_fmk {r : Rat} {k : Nat} (h : Hb r k) (s1 s2 : SV) : ln k (fmk r s1 s2) := h.len
def frs : List Rat → (Nat → SV) → List DFrac
  | [], _ => []
  | r :: l, σ => fmk r (σ 0) (σ 1) :: frs l fun i => σ (i + 2)
theorem frs_qv : ∀ (l : List Rat) (σ : Nat → SV), (frs l σ).map qv = l
  | [], _ => rfl
  | r :: l, σ => by rw [frs, List.map_cons, qv_fmk, frs_qv l]
theorem frs_len (l : List Rat) (σ : Nat → SV) : (frs l σ).length = l.length := by rw [← List.length_map (f := qv), frs_qv]
theorem frs_mem : ∀ {l : List Rat} {σ : Nat → SV} {x : DFrac}, x ∈ frs l σ → ∃ r ∈ l, ∃ s1 s2, x = fmk r s1 s2
  | r :: l, σ, x, h => by
    rcases List.mem_cons.1 h with rfl | h
    · exact ⟨r, List.mem_cons_self, _, _, rfl⟩
    · obtain ⟨r', h', e⟩ := frs_mem h
      exact ⟨r', List.mem_cons_of_mem _ h', e⟩
theorem frs_rt {l : List Rat} {σ : Nat → SV} : ∀ x ∈ frs l σ, rt x := fun x h => by
  obtain ⟨r, _, s1, s2, rfl⟩ := frs_mem h; exact rt_fmk r s1 s2
theorem frs_ln {l : List Rat} {σ : Nat → SV} {k : Nat} (h : ∀ r ∈ l, Hb r k) : ∀ x ∈ frs l σ, ln k x := fun x hx => by
  obtain ⟨r, hr, s1, s2, rfl⟩ := frs_mem hx; exact ln_fmk (h r hr) s1 s2
theorem rt.is {x : DFrac} (h : rt x) : x = fmk (qv x) x.P.Digits.s x.Q.Digits.s := by
  obtain ⟨e1, e2, e3, e4⟩ := FrB.eqs h
  rcases x with ⟨⟨a, ⟨b, c⟩⟩, ⟨d, ⟨e, f⟩⟩⟩
  simp only at e1 e2 e3 e4
  unfold fmk qv
  simp only
  rw [← e1, ← e2, e3, ← e4]
/-- that the list is these fractions -/
def Frs (l : List DFrac) (m : List Rat) : Prop := (∀ x ∈ l, rt x) ∧ l.map qv = m
theorem frs_ex : ∀ {l : List DFrac} {m : List Rat}, Frs l m → ∃ σ, l = frs m σ
  | [], m, h => ⟨fun _ => {}, by obtain ⟨_, h⟩ := h; subst h; rfl⟩
  | x :: l, m, h => by
    obtain ⟨h1, h2⟩ := h
    subst h2
    obtain ⟨σ, e⟩ := frs_ex (l := l) (m := l.map qv) ⟨fun y hy => h1 y (List.mem_cons_of_mem _ hy), rfl⟩
    refine ⟨fun i => match i with | 0 => x.P.Digits.s | 1 => x.Q.Digits.s | i + 2 => σ i, ?_⟩
    show _ = frs (qv x :: l.map qv) _
    rw [frs]
    show x :: l = fmk (qv x) x.P.Digits.s x.Q.Digits.s :: frs (l.map qv) σ
    rw [← e, ← (h1 x List.mem_cons_self).is]
theorem Frs.nil : Frs [] [] := ⟨by simp, rfl⟩
theorem Frs.of (m : List Rat) (σ : Nat → SV) : Frs (frs m σ) m := ⟨frs_rt, frs_qv m σ⟩
theorem Frs.snoc {l : List DFrac} {m : List Rat} {x : DFrac} {r : Rat} (h : Frs l m) (hx : rt x) (e : qv x = r) : Frs (l ++ [x]) (m ++ [r]) :=
  ⟨fun y hy => by rcases List.mem_append.1 hy with hy | hy; exact h.1 y hy; rw [List.mem_singleton.1 hy]; exact hx, by rw [List.map_append, h.2, List.map_singleton, e]⟩
theorem rt.z {x : DFrac} (h : rt x) : Fz x.P.Sign x.P.Digits.l x.Q.Sign x.Q.Digits.l (qv x) := ⟨h, rfl⟩
theorem Frs.eq_of {l m : List DFrac} {a : List Rat} (h : Frs l a) (k : Frs m a) : l.map (fun x => (x.P.Sign, x.P.Digits.l, x.Q.Sign, x.Q.Digits.l)) = m.map (fun x => (x.P.Sign, x.P.Digits.l, x.Q.Sign, x.Q.Digits.l)) := by
  have key : ∀ (l : List DFrac), (∀ x ∈ l, rt x) → l.map (fun x => (x.P.Sign, x.P.Digits.l, x.Q.Sign, x.Q.Digits.l)) = (l.map qv).map fun r => (sgn r.num, dig r.num.natAbs, (1 : Int), dig r.den) := fun l hl => by
    rw [List.map_map]
    refine List.map_congr_left fun x hx => ?_
    obtain ⟨e1, e2, e3, e4⟩ := FrB.eqs (hl x hx)
    show (_, _, _, _) = (_, _, _, _)
    rw [← show fq x.P.Sign x.P.Digits.l x.Q.Digits.l = qv x from rfl, ← e1, ← e2, ← e3, ← e4]
  rw [key l h.1, key m k.1, h.2, k.2]
-- ---- sums
def sumQ (l : List Rat) : Rat := l.foldl (· + ·) 0
theorem sumQ_snoc (l : List Rat) (x : Rat) : sumQ (l ++ [x]) = sumQ l + x := by unfold sumQ; rw [List.foldl_append]; rfl
theorem take_step {α : Type} [Inhabited α] {l : List α} {k : Nat} (h : k < l.length) : l.take (k + 1) = l.take k ++ [l.getD k default] := by
  rw [List.take_add_one, List.getD_eq_getElem?_getD, List.getElem?_eq_getElem h]; rfl
theorem sumQ_step {l : List DFrac} {k : Nat} {x : DFrac} (h : k < l.length) (hx : x = l.getD k default) : sumQ ((l.take (k + 1)).map qv) = sumQ ((l.take k).map qv) + qv x := by
  rw [take_step h, List.map_append, ← hx]; exact sumQ_snoc _ _
theorem sumQ_hb {k : Nat} : ∀ {l : List Rat}, (∀ r ∈ l, Hb r k) → Hb (sumQ l) (1 + l.length * (k + 1)) := fun {l} => by
  have key : ∀ (n : Nat) (l : List Rat), l.length = n → (∀ r ∈ l, Hb r k) → Hb (sumQ l) (1 + n * (k + 1)) := fun n => by
    induction n with
    | zero => intro l hl _; rw [List.eq_nil_of_length_eq_zero hl, Nat.zero_mul]; exact (⟨by decide, by decide⟩ : Hb 0 1)
    | succ n ih =>
      intro l hl h
      have e := List.dropLast_concat_getLast (l := l) (by intro e; subst e; simp at hl)
      rw [← e, sumQ_snoc]
      refine ((ih l.dropLast (by simp [hl]) fun r hr => h r (by rw [← e]; exact List.mem_append_left _ hr)).add (h _ (List.getLast_mem _))).mono ?_
      rw [Nat.add_mul]; omega
  exact key l.length l rfl
/-- lists that are not too long, of numbers that are not too long -/
def Wb (l : List DFrac) : Prop := l.length ≤ 1000 ∧ ∀ x ∈ l, ln 1000000 x
theorem Wb.hb {l : List DFrac} (h : Wb l) (hr : ∀ x ∈ l, rt x) (n : Nat) : Hb (sumQ ((l.take n).map qv)) 1000001002 := by
  have h1 : ∀ r ∈ (l.take n).map qv, Hb r 1000000 := fun r hr' => by
    obtain ⟨x, hx, rfl⟩ := List.mem_map.1 hr'
    have hx := List.mem_of_mem_take hx
    exact (hr x hx).z.hb (h.2 x hx).1 (h.2 x hx).2
  refine (sumQ_hb h1).mono ?_
  have : ((l.take n).map qv).length ≤ 1000 := by simp; have := h.1; omega
  have := Nat.mul_le_mul_right (1000000 + 1) this
  omega
theorem Wb.at {l : List DFrac} (h : Wb l) {k : Nat} {x : DFrac} (hk : k < l.length) (hx : x = l.getD k default) : ln 1000000 x := h.2 x (getD_mem hk hx)
def negB (x : DFrac) : Bool := decide ((if FrB x.P.Sign x.P.Digits.l x.Q.Sign x.Q.Digits.l then x.P.Sign else 0) < 0)
theorem negB_is {x : DFrac} (h : rt x) : negB x = decide (qv x < 0) := by
  unfold negB
  rw [if_pos (show FrB _ _ _ _ from h), h.z.eqs.1]
  exact decide_eq_decide.2 sgn_num.1
/-- the index of the first one -/
def idxF {α : Type} (p : α → Bool) : List α → Int
  | [] => -1
  | x :: l => if p x then 0 else if idxF p l = -1 then -1 else idxF p l + 1
theorem idxF_ge {α : Type} (p : α → Bool) : ∀ l : List α, idxF p l = -1 ∨ 0 ≤ idxF p l
  | [] => .inl rfl
  | x :: l => by
    unfold idxF
    split
    · omega
    · split
      · omega
      · have := idxF_ge p l; omega
theorem idxF_any {α : Type} (p : α → Bool) : ∀ l : List α, 0 ≤ idxF p l ↔ l.any p = true
  | [] => by unfold idxF; simp
  | x :: l => by
    unfold idxF
    rw [List.any_cons, Bool.or_eq_true, ← idxF_any p l]
    by_cases h : p x = true
    · rw [if_pos h]; exact ⟨fun _ => .inl h, fun _ => by omega⟩
    · rw [if_neg h]
      have := idxF_ge p l
      by_cases h2 : idxF p l = -1
      · rw [if_pos h2, h2]; simp [h]
      · rw [if_neg h2]; simp only [h, false_or]; omega
theorem idxF_at {α : Type} [Inhabited α] {p : α → Bool} : ∀ {l : List α} {k : Nat} {x : α}, k < l.length → (∀ i, i < k → p (l.getD i default) = false) → x = l.getD k default → p x = true → (k : Int) = idxF p l
  | y :: l, 0, x, _, _, hx, h => by
    unfold idxF; rw [List.getD_cons_zero] at hx; subst hx; rw [if_pos h]; rfl
  | y :: l, k + 1, x, hk, hn, hx, h => by
    have h0 : p y = false := hn 0 (by omega)
    have ih := idxF_at (p := p) (l := l) (k := k) (x := x) (by simpa using hk) (fun i hi => hn (i + 1) (by omega)) (by simpa using hx) h
    unfold idxF; rw [h0, if_neg (by decide), if_neg (by omega), ← ih]; omega
theorem idxF_no {α : Type} [Inhabited α] {p : α → Bool} : ∀ {l : List α}, (∀ i, i < l.length → p (l.getD i default) = false) → idxF p l = -1
  | [], _ => rfl
  | y :: l, h => by
    have h0 : p y = false := h 0 (by simp)
    have ih := idxF_no (p := p) (l := l) fun i hi => h (i + 1) (by simp; omega)
    unfold idxF; rw [h0, if_neg (by decide), if_pos ih]
def wrongB (x : DFrac) : Bool := !decide (rt x)
theorem anyW {l : List DFrac} : l.any wrongB = false ↔ ∀ x ∈ l, rt x := by
  rw [List.any_eq_false]
  refine forall_congr' fun x => imp_congr_right fun _ => ?_
  unfold wrongB; simp
theorem anyN {l : List DFrac} (h : ∀ x ∈ l, rt x) : l.any negB = false ↔ ∀ x ∈ l, 0 ≤ qv x := by
  rw [List.any_eq_false]
  refine forall_congr' fun x => ⟨fun k hx => ?_, fun k hx => ?_⟩
  · have := k hx; rw [negB_is (h x hx), decide_eq_true_eq, Rat.not_lt] at this; exact this
  · rw [negB_is (h x hx), decide_eq_true_eq, Rat.not_lt]; exact k hx
theorem sum0 (l : List DFrac) : Fz (sgn 0) (dig (Int.natAbs 0)) 1 (dig 1) (sumQ ((l.take (0 : Int).toNat).map qv)) := ⟨FrB.of 0, fq_of 0⟩
theorem Wb.lf {l : List DFrac} (h : Wb l) : ∀ x ∈ l, ln 17179869184 x := fun x hx => by have := h.2 x hx; unfold ln at this ⊢; omega
theorem Frs.len_le {l w : List DFrac} {f : DFrac → Rat} {k : Nat} (h : Frs l ((w.take k).map f)) : l.length ≤ w.length := by
  have := congrArg List.length h.2; simp at this; omega
theorem len0 {l : List DFrac} : (l.length : Int) = 0 ↔ l = [] := ⟨fun h => List.eq_nil_of_length_eq_zero (by omega), fun h => by subst h; rfl⟩
theorem wrong_t {x : DFrac} (h : ¬ FrB x.P.Sign x.P.Digits.l x.Q.Sign x.Q.Digits.l) : wrongB x = true := by unfold wrongB; simp only [Bool.not_eq_true', decide_eq_false_iff_not]; exact h
theorem wrong_f {x : DFrac} (h : FrB x.P.Sign x.P.Digits.l x.Q.Sign x.Q.Digits.l) : wrongB x = false := by unfold wrongB; simp only [Bool.not_eq_false', decide_eq_true_eq]; exact h
theorem intz (n : Int) : Fz (sgn n) (dig n.natAbs) 1 (dig 1) (n : Rat) := ⟨FrB.of (n : Rat), fq_of (n : Rat)⟩
-- ---- shares
def sumW (l : List DFrac) : Rat := sumQ (l.map qv)
def shE (l : List DFrac) : Int := if l = [] ∨ l.any wrongB = true then 1 else if l.any negB = true then 3 else if sumW l = 0 then 15 else 0
def shQ (l : List DFrac) : List Rat := if shE l = 0 then l.map fun x => qv x / sumW l else []
theorem shE_1 {l : List DFrac} (h : l = [] ∨ l.any wrongB = true) : shE l = 1 := if_pos h
theorem shE_3 {l : List DFrac} (h : ¬ (l = [] ∨ l.any wrongB = true)) (k : l.any negB = true) : shE l = 3 := by unfold shE; rw [if_neg h, if_pos k]
theorem shE_15 {l : List DFrac} (h : ¬ (l = [] ∨ l.any wrongB = true)) (k : ¬ l.any negB = true) (s : sumW l = 0) : shE l = 15 := by unfold shE; rw [if_neg h, if_neg k, if_pos s]
theorem shE_0 {l : List DFrac} (h : ¬ (l = [] ∨ l.any wrongB = true)) (k : ¬ l.any negB = true) (s : ¬ sumW l = 0) : shE l = 0 := by unfold shE; rw [if_neg h, if_neg k, if_neg s]
theorem shQ_n {l : List DFrac} (h : shE l ≠ 0) : shQ l = [] := if_neg h
theorem shQ_y {l : List DFrac} (h : shE l = 0) : shQ l = l.map fun x => qv x / sumW l := if_pos h
theorem shE_is {l : List DFrac} (h : shE l = 0) : l ≠ [] ∧ (∀ x ∈ l, rt x) ∧ (∀ x ∈ l, 0 ≤ qv x) ∧ sumW l ≠ 0 := by
  unfold shE at h
  by_cases h1 : l = [] ∨ l.any wrongB = true
  · rw [if_pos h1] at h; omega
  · rw [if_neg h1] at h
    have hr : ∀ x ∈ l, rt x := anyW.1 (by cases e : l.any wrongB; rfl; exact (h1 (.inr e)).elim)
    by_cases h2 : l.any negB = true
    · rw [if_pos h2] at h; omega
    · rw [if_neg h2] at h
      by_cases h3 : sumW l = 0
      · rw [if_pos h3] at h; omega
      · exact ⟨fun e => h1 (.inl e), hr, (anyN hr).1 (by simpa using h2), h3⟩
def isSh (l : List DFrac) : Prop := (∀ x ∈ l, rt x) ∧ (∀ x ∈ l, 0 ≤ qv x) ∧ sumW l = 1
instance (l : List DFrac) : Decidable (isSh l) := by unfold isSh; infer_instance
theorem Wb.hbW {l : List DFrac} (h : Wb l) (hr : ∀ x ∈ l, rt x) : Hb (sumW l) 1000001002 := by
  have := h.hb hr l.length; rw [List.take_length] at this; exact this
theorem isSh_is {l : List DFrac} {n : Int} (hn : (∀ x ∈ l, rt x) → n = cmpQ (sumW l) 1) : ((¬ l.any wrongB = true) ∧ ¬ l.any negB = true) ∧ n = 0 ↔ isSh l := by
  constructor
  · rintro ⟨⟨h1, h2⟩, h3⟩
    have hr := anyW.1 (by simpa using h1)
    refine ⟨hr, (anyN hr).1 (by simpa using h2), ?_⟩
    have := hn hr; rw [h3] at this; unfold cmpQ at this
    by_cases a : sumW l < 1
    · rw [if_pos a] at this; omega
    · rw [if_neg a] at this
      by_cases b : sumW l = 1
      · exact b
      · rw [if_neg b] at this; omega
  · rintro ⟨hr, h2, h3⟩
    refine ⟨⟨by rw [anyW.2 hr]; simp, by rw [(anyN hr).2 h2]; simp⟩, ?_⟩
    rw [hn hr, h3]; rfl
end Fr
end Kb
set_option linter.unusedVariables false
set_option linter.unusedSectionVars false
set_option linter.unusedSimpArgs false
namespace Kb
open Go Go.Proofs
set_option maxRecDepth 10000 in
theorem wrong_ct (f_P_Sign : Int) (f_P_Digits : List Int) (f_P_Digitss : SV) (f_Q_Sign : Int) (f_Q_Digits : List Int) (f_Q_Digitss : SV) (hfP : f_P_Digits.length ≤ 17179869184) (hfQ : f_Q_Digits.length ≤ 17179869184) :
    Cp Try.prog 34 #[ag (DFrac.mk (DBig.mk f_P_Sign ⟨f_P_Digits, f_P_Digitss⟩) (DBig.mk f_Q_Sign ⟨f_Q_Digits, f_Q_Digitss⟩))] [fs true f_P_Digits f_P_Digitss, fs true f_Q_Digits f_Q_Digitss] (bv (!decide (Fr.FrB f_P_Sign f_P_Digits f_Q_Sign f_Q_Digits))) := by
  refine V.fn mo Try.func34 6 1 (by kernel_rfl) fun w H ε k0 => ?_
  obtain ⟨⟨kl1, -⟩, ⟨kl2, -⟩, -⟩ : Lq f_P_Digits f_P_Digitss.v ∧ Lq f_Q_Digits f_Q_Digitss.v ∧ True := kn k0 (by kernel_rfl)
  clear k0
  refine V.go [.nb 0 0 (fun b => pp b 0) 33 (fun _ => ca (DFrac.mk (DBig.mk f_P_Sign ⟨f_P_Digits, f_P_Digitss⟩) (DBig.mk f_Q_Sign ⟨f_Q_Digits, f_Q_Digitss⟩))),
    .kb false] (fun _ _ => by kernel_rfl) fun _ _ G1 => ?_
  intro S1 t1
  refine V.go [.ld 0 0 true (fun _ => Dat.cells (DFrac.mk (DBig.mk f_P_Sign ⟨f_P_Digits, f_P_Digitss⟩) (DBig.mk f_Q_Sign ⟨f_Q_Digits, f_Q_Digitss⟩))),
    .cp g0 1 19 [(kf false (.f 0) f_P_Digits (fun _ => f_P_Digitss)).a, (kf false (.f 1) f_Q_Digits (fun _ => f_Q_Digitss)).a] (fun _ G => right_ct f_P_Sign f_P_Digits f_P_Digitss f_Q_Sign f_Q_Digits f_Q_Digitss (by omega) (by omega)),
    .k (bv (!(decide (Fr.FrB f_P_Sign f_P_Digits f_Q_Sign f_Q_Digits)))),
    .k (bv (!(decide (Fr.FrB f_P_Sign f_P_Digits f_Q_Sign f_Q_Digits))))] (fun _ _ => by kernel_rfl) fun _ _ G2 => ?_
  intro S2 t2
  have e0 : (!(decide (Fr.FrB f_P_Sign f_P_Digits f_Q_Sign f_Q_Digits))) = !decide (Fr.FrB f_P_Sign f_P_Digits f_Q_Sign f_Q_Digits) := by
    rfl
  exact V.ret [0] [] [] [] [] [] (bv (!(decide (Fr.FrB f_P_Sign f_P_Digits f_Q_Sign f_Q_Digits)))) (fun _ _ => by kernel_rfl) (fun _ _ => (Eq.trans (by kernel_rfl) (cong1 (fun (x0 : Bool) => (bv x0 : Value)) e0)).trans (by kernel_rfl)) (fun _ _ => trivial)

set_option maxRecDepth 10000 in
theorem negative_ct (f_P_Sign : Int) (f_P_Digits : List Int) (f_P_Digitss : SV) (f_Q_Sign : Int) (f_Q_Digits : List Int) (f_Q_Digitss : SV) (hfP : f_P_Digits.length ≤ 17179869184) (hfQ : f_Q_Digits.length ≤ 17179869184) :
    Cp Try.prog 35 #[ag (DFrac.mk (DBig.mk f_P_Sign ⟨f_P_Digits, f_P_Digitss⟩) (DBig.mk f_Q_Sign ⟨f_Q_Digits, f_Q_Digitss⟩))] [fs true f_P_Digits f_P_Digitss, fs true f_Q_Digits f_Q_Digitss] (bv (decide ((if Fr.FrB f_P_Sign f_P_Digits f_Q_Sign f_Q_Digits then f_P_Sign else 0) < 0))) := by
  refine V.fn mo Try.func35 6 1 (by kernel_rfl) fun w H ε k0 => ?_
  obtain ⟨⟨kl1, -⟩, ⟨kl2, -⟩, -⟩ : Lq f_P_Digits f_P_Digitss.v ∧ Lq f_Q_Digits f_Q_Digitss.v ∧ True := kn k0 (by kernel_rfl)
  clear k0
  refine V.go [.nb 0 0 (fun b => pp b 0) 33 (fun _ => ca (DFrac.mk (DBig.mk f_P_Sign ⟨f_P_Digits, f_P_Digitss⟩) (DBig.mk f_Q_Sign ⟨f_Q_Digits, f_Q_Digitss⟩))),
    .kb false] (fun _ _ => by kernel_rfl) fun _ _ G1 => ?_
  intro S1 t1
  refine nm (if Fr.FrB f_P_Sign f_P_Digits f_Q_Sign f_Q_Digits then f_P_Sign else 0 : Int) fun n1 hn1 => ?_
  refine V.go [.ld 0 0 true (fun _ => Dat.cells (DFrac.mk (DBig.mk f_P_Sign ⟨f_P_Digits, f_P_Digitss⟩) (DBig.mk f_Q_Sign ⟨f_Q_Digits, f_Q_Digitss⟩))),
    .cp g0 1 20 [(kf false (.f 0) f_P_Digits (fun _ => f_P_Digitss)).a, (kf false (.f 1) f_Q_Digits (fun _ => f_Q_Digitss)).a] (fun _ G => fsign_ctv f_P_Sign f_P_Digits f_P_Digitss f_Q_Sign f_Q_Digits f_Q_Digitss (by omega) (by omega) n1 hn1),
    .k (bv (decide (n1 < 0))),
    .k (bv (decide (n1 < 0)))] (fun _ _ => by kernel_rfl) fun _ _ G2 => ?_
  intro S2 t2
  have e0 : (decide (n1 < 0)) = decide ((if Fr.FrB f_P_Sign f_P_Digits f_Q_Sign f_Q_Digits then f_P_Sign else 0) < 0) := by
    subst_vars; rfl
  exact V.ret [0] [] [] [] [] [] (bv (decide (n1 < 0))) (fun _ _ => by kernel_rfl) (fun _ _ => (Eq.trans (by kernel_rfl) (cong1 (fun (x0 : Bool) => (bv x0 : Value)) e0)).trans (by kernel_rfl)) (fun _ _ => trivial)

set_option maxRecDepth 10000 in
theorem idxw_ct (s : List DFrac) (ss : SV) (hL : ∀ x ∈ s, Fr.ln 17179869184 x) :
    Cp Try.prog 75 #[ss.v, .func (.func 34) #[] #[]] [fs true s ss] (iv (Fr.idxF Fr.wrongB s)) := by
  refine V.fn mo Try.func75 19 0 (by kernel_rfl) fun w H ε k0 => ?_
  obtain ⟨⟨kl1, -⟩, -⟩ : Lq s ss.v ∧ True := kn k0 (by kernel_rfl)
  clear k0
  refine V.go [.k (iv 0)] (fun _ _ => by kernel_rfl) fun _ _ G1 => ?_
  intro S1 t1
  refine V.go [.k (ss.v),
    .ln (kf false (.f 0) s (fun _ => ss)),
    .k (iv 0)] (fun _ _ => by kernel_rfl) fun _ _ G2 => ?_
  intro S2 t2
  refine V.loop (γ := Int) (fun k0 => ⟨[(0, ss.v), (1, .func (.func 34) #[] #[]), (7, iv (s.length : Int)), (8, iv k0)], [fs false s ss], []⟩) (fun k0 => (0 ≤ k0) ∧ (k0 ≤ (s.length : Int)) ∧ (∀ i, i < k0.toNat → Fr.wrongB (s.getD i default) = false)) (fun k0 => ((s.length : Int) - k0).toNat) 0 (by kernel_rfl) [0] (by kernel_rfl) ?_ ?_
  · skip
    refine ⟨?_, ?_, ?_⟩
    · show 0 ≤ (0 : Int)
      first | omega | rfl | (simp; done) | (subst_vars; simp; done)
    · show (0 : Int) ≤ (s.length : Int)
      first | omega | rfl | (simp; done) | (subst_vars; simp; done)
    · show ∀ i, i < (0 : Int).toNat → Fr.wrongB (s.getD i default) = false
      intro i hi; simp at hi
  · rintro k0 hF1 kw3 Z1 hZ1
    have hF1 : (0 ≤ k0) ∧ (k0 ≤ (s.length : Int)) ∧ (∀ i, i < k0.toNat → Fr.wrongB (s.getD i default) = false) := hF1
    obtain ⟨hf1, hf2, hf3⟩ := hF1
    clear kw3
    refine V.go [.k (bv (decide (k0 < (s.length : Int))))] (fun _ _ => by kernel_rfl) fun _ _ G3 => ?_
    intro S3 t3
    refine V.cond (b := decide (k0 < (s.length : Int))) iDT iDF (by kernel_rfl) (fun q1 => ?_) (fun q2 => ?_)
    · skip
      refine V.go [.k (iv k0),
        .k (iv k0)] (fun _ _ => by kernel_rfl) fun _ _ G4 => ?_
      intro S4 t4
      refine nm (s.getD k0.toNat default : DFrac) fun x1 hx1 => ?_
      have hxl := hL _ (getD_mem (by omega) hx1)
      have hxl1 := hxl.1; have hxl2 := hxl.2
      refine V.reg [.k (.func (.func 34) #[] #[]),
        .k (ss.v),
        .k (iv k0),
        .ix g0 (kf false (.f 0) s (fun _ => ss)) k0 (fun _ => ⟨by omega, by omega⟩),
        .le g0 (kf false (.f 0) s (fun _ => ss)) k0 none true x1 hx1 (fun _ => ⟨by omega, by omega⟩) true (fun _ => Dat.cells x1),
        .cp g0 5 34 [(kx false (.g 4 0) x1 x1.P.Digits.l (fun _ => x1.P.Digits.s) (fun _ H (h : Dat.good H (x1 : DFrac)) => h.1)).a, (kx false (.g 4 0) x1 x1.Q.Digits.l (fun _ => x1.Q.Digits.s) (fun _ H (h : Dat.good H (x1 : DFrac)) => h.2)).a] (fun _ G => wrong_ct x1.P.Sign x1.P.Digits.l x1.P.Digits.s x1.Q.Sign x1.Q.Digits.l x1.Q.Digits.s (by omega) (by omega))] (fun _ _ => by kernel_rfl) fun _ _ G5 kw6 => ?_
      intro S5 t5
      obtain ⟨⟨⟨kl2, -⟩, ⟨kl3, -⟩⟩, -⟩ : (Lq x1.P.Digits.l x1.P.Digits.s.v ∧ Lq x1.Q.Digits.l x1.Q.Digits.s.v) ∧ True := kn kw6 (by kernel_rfl)
      clear kw6
      refine V.cond (b := !decide (Fr.FrB x1.P.Sign x1.P.Digits.l x1.Q.Sign x1.Q.Digits.l)) Iff.rfl Iff.rfl (by kernel_rfl) (fun q3 => ?_) (fun q4 => ?_)
      · skip
        refine V.go [.k (iv k0),
          .k (iv k0)] (fun _ _ => by kernel_rfl) fun _ _ G6 => ?_
        intro S6 t6
        have e0 : k0 = Fr.idxF Fr.wrongB s := by
          have hk := Fr.idxF_at (p := Fr.wrongB) (l := s) (k := k0.toNat) (x := x1) (by omega) hf3 hx1 (Fr.wrong_t (by have hqq := q3; simpa using hqq))
          omega
        exact V.ret [0] [] [] [] [] [] (iv k0) (fun _ _ => by kernel_rfl) (fun _ _ => (Eq.trans (by kernel_rfl) (cong1 (fun (x0 : Int) => (iv x0 : Value)) e0)).trans (by kernel_rfl)) (fun _ _ => trivial)
      · skip
        refine V.go [.a (k0 + 1) (by omega) (by omega),
          .k (iv (k0 + 1))] (fun _ _ => by kernel_rfl) fun _ _ G7 => ?_
        intro S7 t7
        refine V.rnd hZ1 (k0 + 1) [0] (by kernel_rfl) ?_ ?_
        · skip
          refine ⟨?_, ?_, ?_⟩
          · show 0 ≤ (k0 + 1)
            first | omega | rfl | (simp; done) | (subst_vars; simp; done)
          · show (k0 + 1) ≤ (s.length : Int)
            first | omega | rfl | (simp; done) | (subst_vars; simp; done)
          · show ∀ i, i < (k0 + 1).toNat → Fr.wrongB (s.getD i default) = false
            intro i hi; by_cases e : i < k0.toNat
            · exact hf3 i e
            · rw [show i = k0.toNat by omega, ← hx1]; exact Fr.wrong_f (by have hqq := q4; simpa using hqq)
        · show ((s.length : Int) - (k0 + 1)).toNat < ((s.length : Int) - k0).toNat
          omega
    · skip
      refine V.go [.k (iv (-1))] (fun _ _ => by kernel_rfl) fun _ _ G8 => ?_
      intro S8 t8
      have e0 : (-1 : Int) = Fr.idxF Fr.wrongB s := by
        exact (Fr.idxF_no fun i hi => hf3 i (by omega)).symm
      exact V.ret [0] [] [] [] [] [] (iv (-1)) (fun _ _ => by kernel_rfl) (fun _ _ => (Eq.trans (by kernel_rfl) (cong1 (fun (x0 : Int) => (iv x0 : Value)) e0)).trans (by kernel_rfl)) (fun _ _ => trivial)
theorem idxw_ctv (s : List DFrac) (ss : SV) (hL : ∀ x ∈ s, Fr.ln 17179869184 x) (rv0 : Int) (erv0 : rv0 = Fr.idxF Fr.wrongB s) :
    Cp Try.prog 75 #[ss.v, .func (.func 34) #[] #[]] [fs true s ss] (iv rv0) := by
  subst erv0; exact idxw_ct s ss hL

set_option maxRecDepth 10000 in
theorem idxn_ct (s : List DFrac) (ss : SV) (hL : ∀ x ∈ s, Fr.ln 17179869184 x) :
    Cp Try.prog 75 #[ss.v, .func (.func 35) #[] #[]] [fs true s ss] (iv (Fr.idxF Fr.negB s)) := by
  refine V.fn mo Try.func75 19 0 (by kernel_rfl) fun w H ε k0 => ?_
  obtain ⟨⟨kl1, -⟩, -⟩ : Lq s ss.v ∧ True := kn k0 (by kernel_rfl)
  clear k0
  refine V.go [.k (iv 0)] (fun _ _ => by kernel_rfl) fun _ _ G1 => ?_
  intro S1 t1
  refine V.go [.k (ss.v),
    .ln (kf false (.f 0) s (fun _ => ss)),
    .k (iv 0)] (fun _ _ => by kernel_rfl) fun _ _ G2 => ?_
  intro S2 t2
  refine V.loop (γ := Int) (fun k0 => ⟨[(0, ss.v), (1, .func (.func 35) #[] #[]), (7, iv (s.length : Int)), (8, iv k0)], [fs false s ss], []⟩) (fun k0 => (0 ≤ k0) ∧ (k0 ≤ (s.length : Int)) ∧ (∀ i, i < k0.toNat → Fr.negB (s.getD i default) = false)) (fun k0 => ((s.length : Int) - k0).toNat) 0 (by kernel_rfl) [0] (by kernel_rfl) ?_ ?_
  · skip
    refine ⟨?_, ?_, ?_⟩
    · show 0 ≤ (0 : Int)
      first | omega | rfl | (simp; done) | (subst_vars; simp; done)
    · show (0 : Int) ≤ (s.length : Int)
      first | omega | rfl | (simp; done) | (subst_vars; simp; done)
    · show ∀ i, i < (0 : Int).toNat → Fr.negB (s.getD i default) = false
      intro i hi; simp at hi
  · rintro k0 hF1 kw3 Z1 hZ1
    have hF1 : (0 ≤ k0) ∧ (k0 ≤ (s.length : Int)) ∧ (∀ i, i < k0.toNat → Fr.negB (s.getD i default) = false) := hF1
    obtain ⟨hf1, hf2, hf3⟩ := hF1
    clear kw3
    refine V.go [.k (bv (decide (k0 < (s.length : Int))))] (fun _ _ => by kernel_rfl) fun _ _ G3 => ?_
    intro S3 t3
    refine V.cond (b := decide (k0 < (s.length : Int))) iDT iDF (by kernel_rfl) (fun q1 => ?_) (fun q2 => ?_)
    · skip
      refine V.go [.k (iv k0),
        .k (iv k0)] (fun _ _ => by kernel_rfl) fun _ _ G4 => ?_
      intro S4 t4
      refine nm (s.getD k0.toNat default : DFrac) fun x1 hx1 => ?_
      have hxl := hL _ (getD_mem (by omega) hx1)
      have hxl1 := hxl.1; have hxl2 := hxl.2
      refine V.reg [.k (.func (.func 35) #[] #[]),
        .k (ss.v),
        .k (iv k0),
        .ix g0 (kf false (.f 0) s (fun _ => ss)) k0 (fun _ => ⟨by omega, by omega⟩),
        .le g0 (kf false (.f 0) s (fun _ => ss)) k0 none true x1 hx1 (fun _ => ⟨by omega, by omega⟩) true (fun _ => Dat.cells x1),
        .cp g0 5 35 [(kx false (.g 4 0) x1 x1.P.Digits.l (fun _ => x1.P.Digits.s) (fun _ H (h : Dat.good H (x1 : DFrac)) => h.1)).a, (kx false (.g 4 0) x1 x1.Q.Digits.l (fun _ => x1.Q.Digits.s) (fun _ H (h : Dat.good H (x1 : DFrac)) => h.2)).a] (fun _ G => negative_ct x1.P.Sign x1.P.Digits.l x1.P.Digits.s x1.Q.Sign x1.Q.Digits.l x1.Q.Digits.s (by omega) (by omega))] (fun _ _ => by kernel_rfl) fun _ _ G5 kw6 => ?_
      intro S5 t5
      obtain ⟨⟨⟨kl2, -⟩, ⟨kl3, -⟩⟩, -⟩ : (Lq x1.P.Digits.l x1.P.Digits.s.v ∧ Lq x1.Q.Digits.l x1.Q.Digits.s.v) ∧ True := kn kw6 (by kernel_rfl)
      clear kw6
      refine V.cond (b := decide ((if Fr.FrB x1.P.Sign x1.P.Digits.l x1.Q.Sign x1.Q.Digits.l then x1.P.Sign else 0) < 0)) iDT iDF (by kernel_rfl) (fun q3 => ?_) (fun q4 => ?_)
      · skip
        refine V.go [.k (iv k0),
          .k (iv k0)] (fun _ _ => by kernel_rfl) fun _ _ G6 => ?_
        intro S6 t6
        have e0 : k0 = Fr.idxF Fr.negB s := by
          have hk := Fr.idxF_at (p := Fr.negB) (l := s) (k := k0.toNat) (x := x1) (by omega) hf3 hx1 (by have hqq := q3; unfold Fr.negB; exact decide_eq_true hqq)
          omega
        exact V.ret [0] [] [] [] [] [] (iv k0) (fun _ _ => by kernel_rfl) (fun _ _ => (Eq.trans (by kernel_rfl) (cong1 (fun (x0 : Int) => (iv x0 : Value)) e0)).trans (by kernel_rfl)) (fun _ _ => trivial)
      · skip
        refine V.go [.a (k0 + 1) (by omega) (by omega),
          .k (iv (k0 + 1))] (fun _ _ => by kernel_rfl) fun _ _ G7 => ?_
        intro S7 t7
        refine V.rnd hZ1 (k0 + 1) [0] (by kernel_rfl) ?_ ?_
        · skip
          refine ⟨?_, ?_, ?_⟩
          · show 0 ≤ (k0 + 1)
            first | omega | rfl | (simp; done) | (subst_vars; simp; done)
          · show (k0 + 1) ≤ (s.length : Int)
            first | omega | rfl | (simp; done) | (subst_vars; simp; done)
          · show ∀ i, i < (k0 + 1).toNat → Fr.negB (s.getD i default) = false
            intro i hi; by_cases e : i < k0.toNat
            · exact hf3 i e
            · rw [show i = k0.toNat by omega, ← hx1]; exact by have hqq := q4; unfold Fr.negB; exact decide_eq_false hqq
        · show ((s.length : Int) - (k0 + 1)).toNat < ((s.length : Int) - k0).toNat
          omega
    · skip
      refine V.go [.k (iv (-1))] (fun _ _ => by kernel_rfl) fun _ _ G8 => ?_
      intro S8 t8
      have e0 : (-1 : Int) = Fr.idxF Fr.negB s := by
        exact (Fr.idxF_no fun i hi => hf3 i (by omega)).symm
      exact V.ret [0] [] [] [] [] [] (iv (-1)) (fun _ _ => by kernel_rfl) (fun _ _ => (Eq.trans (by kernel_rfl) (cong1 (fun (x0 : Int) => (iv x0 : Value)) e0)).trans (by kernel_rfl)) (fun _ _ => trivial)
theorem idxn_ctv (s : List DFrac) (ss : SV) (hL : ∀ x ∈ s, Fr.ln 17179869184 x) (rv0 : Int) (erv0 : rv0 = Fr.idxF Fr.negB s) :
    Cp Try.prog 75 #[ss.v, .func (.func 35) #[] #[]] [fs true s ss] (iv rv0) := by
  subst erv0; exact idxn_ct s ss hL

set_option maxRecDepth 10000 in
theorem conw_ct (s : List DFrac) (ss : SV) (hL : ∀ x ∈ s, Fr.ln 17179869184 x) :
    Cp Try.prog 33 #[ss.v, .func (.func 34) #[] #[]] [fs true s ss] (bv (s.any Fr.wrongB)) := by
  refine V.fn mo Try.func33 9 0 (by kernel_rfl) fun w H ε k0 => ?_
  obtain ⟨⟨kl1, -⟩, -⟩ : Lq s ss.v ∧ True := kn k0 (by kernel_rfl)
  clear k0
  refine V.go [.kb false] (fun _ _ => by kernel_rfl) fun _ _ G1 => ?_
  intro S1 t1
  refine nm (Fr.idxF Fr.wrongB s : Int) fun n1 hn1 => ?_
  refine V.go [.k (ss.v),
    .k (.func (.func 34) #[] #[]),
    .cp g0 2 75 [(kf false (.f 0) s (fun _ => ss)).a] (fun _ G => idxw_ctv s ss (by first | assumption | exact Fr.Wb.lf (by assumption)) n1 hn1),
    .k (bv (decide (0 ≤ n1))),
    .k (bv (decide (0 ≤ n1)))] (fun _ _ => by kernel_rfl) fun _ _ G2 => ?_
  intro S2 t2
  have e0 : (decide (0 ≤ n1)) = s.any Fr.wrongB := by
    refine Bool.eq_iff_iff.2 (decide_eq_true_iff.trans ?_)
    subst_vars
    exact Fr.idxF_any _ _
  exact V.ret [0] [] [] [] [] [] (bv (decide (0 ≤ n1))) (fun _ _ => by kernel_rfl) (fun _ _ => (Eq.trans (by kernel_rfl) (cong1 (fun (x0 : Bool) => (bv x0 : Value)) e0)).trans (by kernel_rfl)) (fun _ _ => trivial)

set_option maxRecDepth 10000 in
theorem conn_ct (s : List DFrac) (ss : SV) (hL : ∀ x ∈ s, Fr.ln 17179869184 x) :
    Cp Try.prog 33 #[ss.v, .func (.func 35) #[] #[]] [fs true s ss] (bv (s.any Fr.negB)) := by
  refine V.fn mo Try.func33 9 0 (by kernel_rfl) fun w H ε k0 => ?_
  obtain ⟨⟨kl1, -⟩, -⟩ : Lq s ss.v ∧ True := kn k0 (by kernel_rfl)
  clear k0
  refine V.go [.kb false] (fun _ _ => by kernel_rfl) fun _ _ G1 => ?_
  intro S1 t1
  refine nm (Fr.idxF Fr.negB s : Int) fun n1 hn1 => ?_
  refine V.go [.k (ss.v),
    .k (.func (.func 35) #[] #[]),
    .cp g0 2 75 [(kf false (.f 0) s (fun _ => ss)).a] (fun _ G => idxn_ctv s ss (by first | assumption | exact Fr.Wb.lf (by assumption)) n1 hn1),
    .k (bv (decide (0 ≤ n1))),
    .k (bv (decide (0 ≤ n1)))] (fun _ _ => by kernel_rfl) fun _ _ G2 => ?_
  intro S2 t2
  have e0 : (decide (0 ≤ n1)) = s.any Fr.negB := by
    refine Bool.eq_iff_iff.2 (decide_eq_true_iff.trans ?_)
    subst_vars
    exact Fr.idxF_any _ _
  exact V.ret [0] [] [] [] [] [] (bv (decide (0 ≤ n1))) (fun _ _ => by kernel_rfl) (fun _ _ => (Eq.trans (by kernel_rfl) (cong1 (fun (x0 : Bool) => (bv x0 : Value)) e0)).trans (by kernel_rfl)) (fun _ _ => trivial)

set_option maxRecDepth 10000 in
theorem sum_ct (l : List DFrac) (ls : SV) (hW : Fr.Wb l) (hR : ∀ x ∈ l, Fr.rt x) :
    Ct Try.prog 36 #[ls.v] [fs true l ls] [] (fun g => ag (DFrac.mk (DBig.mk (Bg.sgn (Fr.sumW l).num) ⟨Bg.dig (Fr.sumW l).num.natAbs, (g.ss 0)⟩) (DBig.mk 1 ⟨Bg.dig (Fr.sumW l).den, (g.ss 1)⟩))) (fun g => [fs true (Bg.dig (Fr.sumW l).num.natAbs) (g.ss 0), fs true (Bg.dig (Fr.sumW l).den) (g.ss 1)]) (fun g => []) (fun g => []) := by
  refine V.fn mo Try.func36 21 3 (by kernel_rfl) fun w H ε k0 => ?_
  obtain ⟨⟨kl1, -⟩, -⟩ : Lq l ls.v ∧ True := kn k0 (by kernel_rfl)
  clear k0
  refine V.go [.nb 0 0 (fun b => pp b 0) 33 (fun _ => ca (DFrac.mk (DBig.mk 0 ⟨[], {}⟩) (DBig.mk 0 ⟨[], {}⟩)))] (fun _ _ => by kernel_rfl) fun _ _ G1 => ?_
  intro S1 t1
  refine nm (Bg.sgn (0 : Int) : Int) fun n1 hn1 => ?_
  refine nm (Bg.dig (0 : Int).natAbs : List Int) fun l1 hl1 => ?_
  have hl1n := congrArg List.length hl1
  refine nm (Bg.dig 1 : List Int) fun l2 hl2 => ?_
  have hl2n := congrArg List.length hl2
  refine V.reg [.ct g0 0 18 false [] [] [] (fun _ G => fint_ctv (0 : Int) (by omega) n1 hn1 l1 hl1 l2 hl2),
    .nb 1 1 (fun b => pp b 0) 33 (fun _ => ca (DFrac.mk (DBig.mk 0 ⟨[], {}⟩) (DBig.mk 0 ⟨[], {}⟩))),
    .st 1 (fun G => .blk ((G 1).b) (ca (DFrac.mk (DBig.mk n1 ⟨l1, (G 0).ss 0⟩) (DBig.mk 1 ⟨l2, (G 0).ss 1⟩))) 33)] (fun _ _ => by kernel_rfl) fun _ _ G2 kw2 => ?_
  intro S2 t2
  obtain ⟨⟨kl2, -⟩, ⟨kl3, -⟩, -⟩ : Lq l1 (((G2 0).ss 0).v) ∧ Lq l2 (((G2 0).ss 1).v) ∧ True := kn kw2 (by kernel_rfl)
  clear kw2
  refine V.go [.k (ls.v),
    .ln (kf false (.f 0) l (fun _ => ls)),
    .k (iv 0)] (fun _ _ => by kernel_rfl) fun _ _ G3 => ?_
  intro S3 t3
  refine V.loop (γ := Int × Int × List Int × SV × Int × List Int × SV) (fun ⟨k0, out_0, out_1, out_1s, out_2, out_3, out_3s⟩ => ⟨[(2, pp ((G1 0).b) 0), (3, pp ((G2 1).b) 0), (7, ls.v), (8, iv (l.length : Int)), (9, iv k0)], [fs false l ls, fs true out_1 out_1s, fs true out_3 out_3s], [.blk ((G1 0).b) (ca (DFrac.mk (DBig.mk 0 ⟨[], {}⟩) (DBig.mk 0 ⟨[], {}⟩))) 33, .blk ((G2 1).b) (ca (DFrac.mk (DBig.mk out_0 ⟨out_1, out_1s⟩) (DBig.mk out_2 ⟨out_3, out_3s⟩))) 33, .no]⟩) (fun ⟨k0, out_0, out_1, out_1s, out_2, out_3, out_3s⟩ => (0 ≤ k0) ∧ (k0 ≤ (l.length : Int)) ∧ (Fr.Fz out_0 out_1 out_2 out_3 (Fr.sumQ ((l.take k0.toNat).map Fr.qv)))) (fun ⟨k0, out_0, out_1, out_1s, out_2, out_3, out_3s⟩ => ((l.length : Int) - k0).toNat) (0, n1, l1, (G2 0).ss 0, 1, l2, (G2 0).ss 1) (by kernel_rfl) [0, 1, 2] (by kernel_rfl) ?_ ?_
  · skip
    refine ⟨?_, ?_, ?_⟩
    · show 0 ≤ (0 : Int)
      first | omega | rfl | (simp; done) | (subst_vars; simp; done)
    · show (0 : Int) ≤ (l.length : Int)
      first | omega | rfl | (simp; done) | (subst_vars; simp; done)
    · show Fr.Fz n1 l1 (1 : Int) l2 (Fr.sumQ ((l.take (0 : Int).toNat).map Fr.qv))
      subst_vars; exact Fr.sum0 l
  · rintro ⟨k0, out_0, out_1, out_1s, out_2, out_3, out_3s⟩ hF1 kw4 Z1 hZ1
    have hF1 : (0 ≤ k0) ∧ (k0 ≤ (l.length : Int)) ∧ (Fr.Fz out_0 out_1 out_2 out_3 (Fr.sumQ ((l.take k0.toNat).map Fr.qv))) := hF1
    obtain ⟨hf1, hf2, hf3⟩ := hF1
    obtain ⟨-, ⟨kl4, -⟩, ⟨kl5, -⟩, -⟩ : Lq l ls.v ∧ Lq out_1 out_1s.v ∧ Lq out_3 out_3s.v ∧ True := kn kw4 (by kernel_rfl)
    clear kw4
    have hFl := hf3.len (hW.hb hR k0.toNat)
    have hFl1 := hFl.1; have hFl2 := hFl.2
    refine V.go [.k (bv (decide (k0 < (l.length : Int))))] (fun _ _ => by kernel_rfl) fun _ _ G4 => ?_
    intro S4 t4
    refine V.cond (b := decide (k0 < (l.length : Int))) iDT iDF (by kernel_rfl) (fun q1 => ?_) (fun q2 => ?_)
    · skip
      refine nm (l.getD k0.toNat default : DFrac) fun x1 hx1 => ?_
      refine V.reg [.ix g0 (kf false (.f 0) l (fun _ => ls)) k0 (fun _ => ⟨by omega, by omega⟩),
        .le g0 (kf false (.f 0) l (fun _ => ls)) k0 none true x1 hx1 (fun _ => ⟨by omega, by omega⟩) true (fun _ => Dat.cells x1),
        .nb 2 2 (fun b => pp b 0) 33 (fun _ => ca (DFrac.mk (DBig.mk 0 ⟨[], {}⟩) (DBig.mk 0 ⟨[], {}⟩))),
        .st 2 (fun G => .blk ((G 2).b) (ca x1) 33)] (fun _ _ => by kernel_rfl) fun _ _ G5 kw6 => ?_
      intro S5 t5
      obtain ⟨⟨⟨kl6, -⟩, ⟨kl7, -⟩⟩, -⟩ : (Lq x1.P.Digits.l x1.P.Digits.s.v ∧ Lq x1.Q.Digits.l x1.Q.Digits.s.v) ∧ True := kn kw6 (by kernel_rfl)
      clear kw6
      refine nm (Fr.rS (Fr.FrB out_0 out_1 out_2 out_3 ∧ Fr.FrB x1.P.Sign x1.P.Digits.l x1.Q.Sign x1.Q.Digits.l) ((Fr.fq out_0 out_1 out_3) + (Fr.fq x1.P.Sign x1.P.Digits.l x1.Q.Digits.l)) : Int) fun n2 hn2 => ?_
      refine nm (Fr.rD (Fr.FrB out_0 out_1 out_2 out_3 ∧ Fr.FrB x1.P.Sign x1.P.Digits.l x1.Q.Sign x1.Q.Digits.l) ((Fr.fq out_0 out_1 out_3) + (Fr.fq x1.P.Sign x1.P.Digits.l x1.Q.Digits.l)) : List Int) fun l3 hl3 => ?_
      have hl3n := congrArg List.length hl3
      refine nm (Fr.rT (Fr.FrB out_0 out_1 out_2 out_3 ∧ Fr.FrB x1.P.Sign x1.P.Digits.l x1.Q.Sign x1.Q.Digits.l) : Int) fun n3 hn3 => ?_
      refine nm (Fr.rE (Fr.FrB out_0 out_1 out_2 out_3 ∧ Fr.FrB x1.P.Sign x1.P.Digits.l x1.Q.Sign x1.Q.Digits.l) ((Fr.fq out_0 out_1 out_3) + (Fr.fq x1.P.Sign x1.P.Digits.l x1.Q.Digits.l)) : List Int) fun l4 hl4 => ?_
      have hl4n := congrArg List.length hl4
      refine nm (if ¬ (Fr.FrB out_0 out_1 out_2 out_3 ∧ Fr.FrB x1.P.Sign x1.P.Digits.l x1.Q.Sign x1.Q.Digits.l) then (1 : Int) else 0 : Int) fun n4 hn4 => ?_
      have hxm := getD_mem (l := l) (k := k0.toNat) (by omega) hx1
      have hxr := hR _ hxm; have hxl := hW.2 _ hxm
      have hxl1 := hxl.1; have hxl2 := hxl.2
      have zs := Fr.Fz.of ⟨hf3.rt, hxr⟩ hn2 hl3 hn3 hl4
      refine V.reg [.ld 1 0 true (fun _ => Dat.cells (DFrac.mk (DBig.mk out_0 ⟨out_1, out_1s⟩) (DBig.mk out_2 ⟨out_3, out_3s⟩))),
        .ld 2 0 true (fun _ => Dat.cells x1),
        .ct g0 2 14 false [] [] [(kf true (.f 1) out_1 (fun _ => out_1s)).a, (kf true (.f 2) out_3 (fun _ => out_3s)).a, (kx false (.f 3) x1 x1.P.Digits.l (fun _ => x1.P.Digits.s) (fun _ H (h : Dat.good H (x1 : DFrac)) => h.1)).a, (kx false (.f 3) x1 x1.Q.Digits.l (fun _ => x1.Q.Digits.s) (fun _ H (h : Dat.good H (x1 : DFrac)) => h.2)).a] (fun _ G => fadd_ctv out_0 out_1 out_1s out_2 out_3 out_3s x1.P.Sign x1.P.Digits.l x1.P.Digits.s x1.Q.Sign x1.Q.Digits.l x1.Q.Digits.s (by omega) (by omega) (by omega) (by omega) n2 hn2 l3 hl3 n3 hn3 l4 hl4 n4 hn4),
        .v fun G => .tuple #[ag (DFrac.mk (DBig.mk n2 ⟨l3, (G 2).ss 0⟩) (DBig.mk n3 ⟨l4, (G 2).ss 1⟩)), iv n4],
        .v fun G => ag (DFrac.mk (DBig.mk n2 ⟨l3, (G 2).ss 0⟩) (DBig.mk n3 ⟨l4, (G 2).ss 1⟩)),
        .k (iv n4),
        .st 1 (fun G => .blk ((G2 1).b) (ca (DFrac.mk (DBig.mk n2 ⟨l3, (G 2).ss 0⟩) (DBig.mk n3 ⟨l4, (G 2).ss 1⟩))) 33)] (fun _ _ => by kernel_rfl) fun _ _ G6 kw7 => ?_
      intro S6 t6
      obtain ⟨⟨kl8, -⟩, ⟨kl9, -⟩, -⟩ : Lq l3 (((G6 2).ss 0).v) ∧ Lq l4 (((G6 2).ss 1).v) ∧ True := kn kw7 (by kernel_rfl)
      clear kw7
      refine V.go [.a (k0 + 1) (by omega) (by omega),
        .k (iv (k0 + 1))] (fun _ _ => by kernel_rfl) fun _ _ G7 => ?_
      intro S7 t7
      refine V.rnd hZ1 (k0 + 1, n2, l3, (G6 2).ss 0, n3, l4, (G6 2).ss 1) [0, 4, 5] (by kernel_rfl) ?_ ?_
      · skip
        refine ⟨?_, ?_, ?_⟩
        · show 0 ≤ (k0 + 1)
          first | omega | rfl | (simp; done) | (subst_vars; simp; done)
        · show (k0 + 1) ≤ (l.length : Int)
          first | omega | rfl | (simp; done) | (subst_vars; simp; done)
        · show Fr.Fz n2 l3 n3 l4 (Fr.sumQ ((l.take (k0 + 1).toNat).map Fr.qv))
          have hz := zs; rw [hf3.v] at hz
          rw [show (k0 + 1).toNat = k0.toNat + 1 by omega, Fr.sumQ_step (by omega) hx1]; exact hz
      · show ((l.length : Int) - (k0 + 1)).toNat < ((l.length : Int) - k0).toNat
        omega
    · skip
      have hs := hf3; rw [show k0.toNat = l.length by omega, List.take_length] at hs
      refine V.go [.ld 1 0 true (fun _ => Dat.cells (DFrac.mk (DBig.mk out_0 ⟨out_1, out_1s⟩) (DBig.mk out_2 ⟨out_3, out_3s⟩))),
        .st 0 (fun _ => .blk ((G1 0).b) (ca (DFrac.mk (DBig.mk out_0 ⟨out_1, out_1s⟩) (DBig.mk out_2 ⟨out_3, out_3s⟩))) 33)] (fun _ _ => by kernel_rfl) fun _ _ G8 => ?_
      intro S8 t8
      have e1 : out_1 = Bg.dig (Fr.sumW l).num.natAbs := by
        exact hs.eqs.2.1
      subst e1
      have e3 : out_3 = Bg.dig (Fr.sumW l).den := by
        exact hs.eqs.2.2.2
      subst e3
      have e0 : out_0 = Bg.sgn (Fr.sumW l).num := by
        exact hs.eqs.1
      have e2 : out_2 = 1 := by
        exact hs.eqs.2.2.1
      exact V.ret [0] [out_1s, out_3s] [fun _ => {}, fun _ => {}] [] [1, 2] [] (ag (DFrac.mk (DBig.mk out_0 ⟨(Bg.dig (Fr.sumW l).num.natAbs), out_1s⟩) (DBig.mk out_2 ⟨(Bg.dig (Fr.sumW l).den), out_3s⟩))) (fun _ _ => by kernel_rfl) (fun _ _ => (Eq.trans (by kernel_rfl) (cong2 (fun (x0 : Int) (x2 : Int) => (.agg #[iv x0, out_1s.v, iv x2, out_3s.v] : Value)) e0 e2)).trans (by kernel_rfl)) (fun _ _ => trivial)
theorem sum_ctv (l : List DFrac) (ls : SV) (hW : Fr.Wb l) (hR : ∀ x ∈ l, Fr.rt x) (rv0 : Int) (erv0 : rv0 = Bg.sgn (Fr.sumW l).num) (rv1 : List Int) (erv1 : rv1 = Bg.dig (Fr.sumW l).num.natAbs) (rv3 : List Int) (erv3 : rv3 = Bg.dig (Fr.sumW l).den) :
    Ct Try.prog 36 #[ls.v] [fs true l ls] [] (fun g => ag (DFrac.mk (DBig.mk rv0 ⟨rv1, (g.ss 0)⟩) (DBig.mk 1 ⟨rv3, (g.ss 1)⟩))) (fun g => [fs true rv1 (g.ss 0), fs true rv3 (g.ss 1)]) (fun g => []) (fun g => []) := by
  subst erv0 erv1 erv3; exact sum_ct l ls hW hR

set_option maxRecDepth 10000 in
theorem shares_ct (weights : List DFrac) (weightss : SV) (hW : Fr.Wb weights) :
    Ct Try.prog 10 #[weightss.v] [fs true weights weightss] [] (fun g => .tuple #[((g.ss 0)).v, iv (Fr.shE weights)]) (fun g => [fs true (Fr.frs (Fr.shQ weights) (g.sl 0)) (g.ss 0)]) (fun g => []) (fun g => []) := by
  refine V.fn mo Try.func10 44 4 (by kernel_rfl) fun w H ε k0 => ?_
  obtain ⟨⟨kl1, -⟩, -⟩ : Lq weights weightss.v ∧ True := kn k0 (by kernel_rfl)
  clear k0
  refine V.go [.k (.slice none 0 0),
    .k (iv 0)] (fun _ _ => by kernel_rfl) fun _ _ G1 => ?_
  intro S1 t1
  refine nm ((decide ((weights.length : Int) = 0)) || (weights.any Fr.wrongB) : Bool) fun p1 hp1 => ?_
  refine V.go [.k (weightss.v),
    .ln (kf false (.f 0) weights (fun _ => weightss)),
    .k (bv (decide ((weights.length : Int) = 0))),
    .k (bv (decide ((weights.length : Int) = 0))),
    .k (weightss.v),
    .cp (gF (b := decide ((weights.length : Int) = 0)) iDF) 5 33 [(kf false (.f 0) weights (fun _ => weightss)).a] (fun hg G => conw_ct weights weightss (by first | assumption | exact Fr.Wb.lf (by assumption))),
    .orn g0 false (decide ((weights.length : Int) = 0)) (weights.any Fr.wrongB) p1 hp1,
    .k (bv p1)] (fun _ _ => by kernel_rfl) fun _ _ G2 => ?_
  intro S2 t2
  refine V.cond (b := p1) (iN hp1 (iOT iDT Iff.rfl)) (iN hp1 (iOF iDF Iff.rfl)) (by kernel_rfl) (fun q1 => ?_) (fun q2 => ?_)
  · skip
    have hE := Fr.shE_1 (l := weights) (by have hqq := q1; rw [Fr.len0] at hqq; exact hqq)
    refine V.go [.k (.slice none 0 0),
      .k (iv 1)] (fun _ _ => by kernel_rfl) fun _ _ G3 => ?_
    intro S3 t3
    refine V.nilF (α := DFrac) ?_
    have e0 : (Fr.shQ weights) = [] := by
      exact Fr.shQ_n (by rw [hE]; decide)
    rw [e0]
    have e1 : (1 : Int) = Fr.shE weights := by
      exact hE.symm
    exact V.ret [0, 0] [{}] [fun _ => {}] [] [1] [] (.tuple #[SV.v ({}), iv 1]) (fun _ _ => by kernel_rfl) (fun _ _ => (Eq.trans (by kernel_rfl) (cong1 (fun (x1 : Int) => (.tuple #[SV.v ({}), iv x1] : Value)) e1)).trans (by kernel_rfl)) (fun _ _ => trivial)
  · skip
    have hq1 : ¬ (weights = [] ∨ weights.any Fr.wrongB = true) := by have hqq := q2; rw [Fr.len0] at hqq; rintro (h | h); exact hqq.1 h; exact absurd (h.symm.trans hqq.2) (by decide)
    have hR := Fr.anyW.1 (by simpa using fun h => hq1 (.inr h) : weights.any Fr.wrongB = false)
    refine V.go [.k (weightss.v),
      .cp g0 1 33 [(kf false (.f 0) weights (fun _ => weightss)).a] (fun _ G => conn_ct weights weightss (by first | assumption | exact Fr.Wb.lf (by assumption))),
      .k (bv (weights.any Fr.negB))] (fun _ _ => by kernel_rfl) fun _ _ G4 => ?_
    intro S4 t4
    refine V.cond (b := weights.any Fr.negB) Iff.rfl Iff.rfl (by kernel_rfl) (fun q3 => ?_) (fun q4 => ?_)
    · skip
      have hE := Fr.shE_3 hq1 q3
      refine V.go [.k (.slice none 0 0),
        .k (iv 3)] (fun _ _ => by kernel_rfl) fun _ _ G5 => ?_
      intro S5 t5
      refine V.nilF (α := DFrac) ?_
      have e0 : (Fr.shQ weights) = [] := by
        exact Fr.shQ_n (by rw [hE]; decide)
      rw [e0]
      have e1 : (3 : Int) = Fr.shE weights := by
        exact hE.symm
      exact V.ret [0, 0] [{}] [fun _ => {}] [] [1] [] (.tuple #[SV.v ({}), iv 3]) (fun _ _ => by kernel_rfl) (fun _ _ => (Eq.trans (by kernel_rfl) (cong1 (fun (x1 : Int) => (.tuple #[SV.v ({}), iv x1] : Value)) e1)).trans (by kernel_rfl)) (fun _ _ => trivial)
    · skip
      have hq2 : ¬ weights.any Fr.negB = true := by have hqq := q4; simpa using hqq
      refine nm (Bg.sgn (Fr.sumW weights).num : Int) fun n1 hn1 => ?_
      refine nm (Bg.dig (Fr.sumW weights).num.natAbs : List Int) fun l1 hl1 => ?_
      have hl1n := congrArg List.length hl1
      refine nm (Bg.dig (Fr.sumW weights).den : List Int) fun l2 hl2 => ?_
      have hl2n := congrArg List.length hl2
      have zw : Fr.Fz n1 l1 1 l2 (Fr.sumW weights) := by subst_vars; exact ⟨Fr.FrB.of _, Fr.fq_of _⟩
      have hzl := zw.len (hW.hbW hR)
      have hzl1 := hzl.1; have hzl2 := hzl.2
      refine V.reg [.k (weightss.v),
        .ct g0 1 36 false [] [] [(kf false (.f 0) weights (fun _ => weightss)).a] (fun _ G => sum_ctv weights weightss hW hR n1 hn1 l1 hl1 l2 hl2),
        .nb 2 0 (fun b => pp b 0) 33 (fun _ => ca (DFrac.mk (DBig.mk 0 ⟨[], {}⟩) (DBig.mk 0 ⟨[], {}⟩))),
        .st 0 (fun G => .blk ((G 2).b) (ca (DFrac.mk (DBig.mk n1 ⟨l1, (G 1).ss 0⟩) (DBig.mk 1 ⟨l2, (G 1).ss 1⟩))) 33)] (fun _ _ => by kernel_rfl) fun _ _ G6 kw6 => ?_
      intro S6 t6
      obtain ⟨⟨kl2, -⟩, ⟨kl3, -⟩, -⟩ : Lq l1 (((G6 1).ss 0).v) ∧ Lq l2 (((G6 1).ss 1).v) ∧ True := kn kw6 (by kernel_rfl)
      clear kw6
      refine nm (if Fr.FrB n1 l1 (1 : Int) l2 then n1 else 0 : Int) fun n2 hn2 => ?_
      refine V.go [.ld 0 0 true (fun _ => Dat.cells (DFrac.mk (DBig.mk n1 ⟨l1, (G6 1).ss 0⟩) (DBig.mk 1 ⟨l2, (G6 1).ss 1⟩))),
        .cp g0 1 20 [(kf true (.f 1) l1 (fun _ => (G6 1).ss 0)).a, (kf true (.f 2) l2 (fun _ => (G6 1).ss 1)).a] (fun _ G => fsign_ctv n1 l1 ((G6 1).ss 0) (1 : Int) l2 ((G6 1).ss 1) (by omega) (by omega) n2 hn2),
        .k (bv (decide (n2 = 0)))] (fun _ _ => by kernel_rfl) fun _ _ G7 => ?_
      intro S7 t7
      rw [if_pos zw.rt] at hn2
      have hsz : n2 = 0 ↔ Fr.sumW weights = 0 := by rw [hn2, zw.eqs.1]; exact Fr.sgn_num.2.1
      refine V.cond (b := decide (n2 = 0)) iDT iDF (by kernel_rfl) (fun q5 => ?_) (fun q6 => ?_)
      · skip
        have hE := Fr.shE_15 hq1 hq2 (hsz.1 q5)
        refine V.go [.k (.slice none 0 0),
          .k (iv 15)] (fun _ _ => by kernel_rfl) fun _ _ G8 => ?_
        intro S8 t8
        refine V.nilF (α := DFrac) ?_
        have e0 : (Fr.shQ weights) = [] := by
          exact Fr.shQ_n (by rw [hE]; decide)
        rw [e0]
        have e1 : (15 : Int) = Fr.shE weights := by
          exact hE.symm
        exact V.ret [0, 0] [{}] [fun _ => {}] [] [3] [] (.tuple #[SV.v ({}), iv 15]) (fun _ _ => by kernel_rfl) (fun _ _ => (Eq.trans (by kernel_rfl) (cong1 (fun (x1 : Int) => (.tuple #[SV.v ({}), iv x1] : Value)) e1)).trans (by kernel_rfl)) (fun _ _ => trivial)
      · skip
        have hE := Fr.shE_0 hq1 hq2 fun h => q6 (hsz.2 h)
        rw [hn2] at hsz
        have hne : n1 ≠ 0 := fun h => by have h2 := Fr.shE_is hE; exact h2.2.2.2 (hsz.1 h)
        refine V.go [.k (.slice none 0 0)] (fun _ _ => by kernel_rfl) fun _ _ G9 => ?_
        intro S9 t9
        refine V.go [.k (weightss.v),
          .ln (kf false (.f 0) weights (fun _ => weightss)),
          .k (iv 0)] (fun _ _ => by kernel_rfl) fun _ _ G10 => ?_
        intro S10 t10
        refine V.on (α := DFrac) 3 33 (by kernel_rfl) ?_
        refine V.loop (γ := List DFrac × SV × Int) (fun ⟨out, outs, k0⟩ => ⟨[(4, pp ((G6 2).b) 0), (5, outs.v), (26, weightss.v), (27, iv (weights.length : Int)), (28, iv k0)], [fs false weights weightss, fs true l1 ((G6 1).ss 0), fs true l2 ((G6 1).ss 1)], [.blk ((G6 2).b) (ca (DFrac.mk (DBig.mk n1 ⟨l1, (G6 1).ss 0⟩) (DBig.mk 1 ⟨l2, (G6 1).ss 1⟩))) 33, .no, .no, os true 33 out outs]⟩) (fun ⟨out, outs, k0⟩ => (0 ≤ k0) ∧ (k0 ≤ (weights.length : Int)) ∧ (Fr.Frs out ((weights.take k0.toNat).map fun x => Fr.qv x / Fr.sumW weights))) (fun ⟨out, outs, k0⟩ => ((weights.length : Int) - k0).toNat) (([] : List DFrac), {}, 0) (by kernel_rfl) [0, 1, 2] (by kernel_rfl) ?_ ?_
        · skip
          refine ⟨?_, ?_, ?_⟩
          · show 0 ≤ (0 : Int)
            first | omega | rfl | (simp; done) | (subst_vars; simp; done)
          · show (0 : Int) ≤ (weights.length : Int)
            first | omega | rfl | (simp; done) | (subst_vars; simp; done)
          · show Fr.Frs ([] : List DFrac) ((weights.take (0 : Int).toNat).map fun x => Fr.qv x / Fr.sumW weights)
            exact Fr.Frs.nil
        · rintro ⟨out, outs, k0⟩ hF1 kw11 Z1 hZ1
          have hF1 : (0 ≤ k0) ∧ (k0 ≤ (weights.length : Int)) ∧ (Fr.Frs out ((weights.take k0.toNat).map fun x => Fr.qv x / Fr.sumW weights)) := hF1
          obtain ⟨hf1, hf2, hf3⟩ := hF1
          obtain ⟨-, -, -, ⟨kl4, -⟩, -⟩ : Lq weights weightss.v ∧ Lq l1 (((G6 1).ss 0).v) ∧ Lq l2 (((G6 1).ss 1).v) ∧ Lq out outs.v ∧ True := kn kw11 (by kernel_rfl)
          clear kw11
          have hol := hf3.len_le; have hW1 := hW.1
          refine V.go [.k (bv (decide (k0 < (weights.length : Int))))] (fun _ _ => by kernel_rfl) fun _ _ G11 => ?_
          intro S11 t11
          refine V.cond (b := decide (k0 < (weights.length : Int))) iDT iDF (by kernel_rfl) (fun q7 => ?_) (fun q8 => ?_)
          · skip
            refine nm (weights.getD k0.toNat default : DFrac) fun x1 hx1 => ?_
            refine V.reg [.ix g0 (kf false (.f 0) weights (fun _ => weightss)) k0 (fun _ => ⟨by omega, by omega⟩),
              .le g0 (kf false (.f 0) weights (fun _ => weightss)) k0 none true x1 hx1 (fun _ => ⟨by omega, by omega⟩) true (fun _ => Dat.cells x1),
              .nb 2 1 (fun b => pp b 0) 33 (fun _ => ca (DFrac.mk (DBig.mk 0 ⟨[], {}⟩) (DBig.mk 0 ⟨[], {}⟩))),
              .st 1 (fun G => .blk ((G 2).b) (ca x1) 33)] (fun _ _ => by kernel_rfl) fun _ _ G12 kw13 => ?_
            intro S12 t12
            obtain ⟨⟨⟨kl5, -⟩, ⟨kl6, -⟩⟩, -⟩ : (Lq x1.P.Digits.l x1.P.Digits.s.v ∧ Lq x1.Q.Digits.l x1.Q.Digits.s.v) ∧ Lq out outs.v ∧ True := kn kw13 (by kernel_rfl)
            clear kw13
            refine nm (Fr.rS ((Fr.FrB x1.P.Sign x1.P.Digits.l x1.Q.Sign x1.Q.Digits.l ∧ Fr.FrB n1 l1 (1 : Int) l2) ∧ n1 ≠ 0) ((Fr.fq x1.P.Sign x1.P.Digits.l x1.Q.Digits.l) / (Fr.fq n1 l1 l2)) : Int) fun n3 hn3 => ?_
            refine nm (Fr.rD ((Fr.FrB x1.P.Sign x1.P.Digits.l x1.Q.Sign x1.Q.Digits.l ∧ Fr.FrB n1 l1 (1 : Int) l2) ∧ n1 ≠ 0) ((Fr.fq x1.P.Sign x1.P.Digits.l x1.Q.Digits.l) / (Fr.fq n1 l1 l2)) : List Int) fun l3 hl3 => ?_
            have hl3n := congrArg List.length hl3
            refine nm (Fr.rT ((Fr.FrB x1.P.Sign x1.P.Digits.l x1.Q.Sign x1.Q.Digits.l ∧ Fr.FrB n1 l1 (1 : Int) l2) ∧ n1 ≠ 0) : Int) fun n4 hn4 => ?_
            refine nm (Fr.rE ((Fr.FrB x1.P.Sign x1.P.Digits.l x1.Q.Sign x1.Q.Digits.l ∧ Fr.FrB n1 l1 (1 : Int) l2) ∧ n1 ≠ 0) ((Fr.fq x1.P.Sign x1.P.Digits.l x1.Q.Digits.l) / (Fr.fq n1 l1 l2)) : List Int) fun l4 hl4 => ?_
            have hl4n := congrArg List.length hl4
            refine nm (if ¬ (Fr.FrB x1.P.Sign x1.P.Digits.l x1.Q.Sign x1.Q.Digits.l ∧ Fr.FrB n1 l1 (1 : Int) l2) then (1 : Int) else if n1 = 0 then 15 else 0 : Int) fun n5 hn5 => ?_
            have hxm := getD_mem (l := weights) (k := k0.toNat) (by omega) hx1
            have hxr := hR _ hxm; have hxl := hW.2 _ hxm
            have hxl1 := hxl.1; have hxl2 := hxl.2
            have zd := Fr.Fz.of ⟨⟨hxr, zw.rt⟩, hne⟩ hn3 hl3 hn4 hl4
            rw [zw.v] at zd
            refine V.reg [.ld 1 0 true (fun _ => Dat.cells x1),
              .ld 0 0 true (fun _ => Dat.cells (DFrac.mk (DBig.mk n1 ⟨l1, (G6 1).ss 0⟩) (DBig.mk 1 ⟨l2, (G6 1).ss 1⟩))),
              .ct g0 2 37 false [] [] [(kx false (.f 3) x1 x1.P.Digits.l (fun _ => x1.P.Digits.s) (fun _ H (h : Dat.good H (x1 : DFrac)) => h.1)).a, (kx false (.f 3) x1 x1.Q.Digits.l (fun _ => x1.Q.Digits.s) (fun _ H (h : Dat.good H (x1 : DFrac)) => h.2)).a, (kf true (.f 1) l1 (fun _ => (G6 1).ss 0)).a, (kf true (.f 2) l2 (fun _ => (G6 1).ss 1)).a] (fun _ G => fdiv_ctv x1.P.Sign x1.P.Digits.l x1.P.Digits.s x1.Q.Sign x1.Q.Digits.l x1.Q.Digits.s n1 l1 ((G6 1).ss 0) (1 : Int) l2 ((G6 1).ss 1) (by omega) (by omega) (by omega) (by omega) n3 hn3 l3 hl3 n4 hn4 l4 hl4 n5 hn5),
              .v fun G => .tuple #[ag (DFrac.mk (DBig.mk n3 ⟨l3, (G 2).ss 0⟩) (DBig.mk n4 ⟨l4, (G 2).ss 1⟩)), iv n5],
              .v fun G => ag (DFrac.mk (DBig.mk n3 ⟨l3, (G 2).ss 0⟩) (DBig.mk n4 ⟨l4, (G 2).ss 1⟩)),
              .k (iv n5),
              .nb 6 2 (fun b => pp b 0) 33 (fun _ => ca (DFrac.mk (DBig.mk 0 ⟨[], {}⟩) (DBig.mk 0 ⟨[], {}⟩))),
              .st 2 (fun G => .blk ((G 6).b) (ca (DFrac.mk (DBig.mk n3 ⟨l3, (G 2).ss 0⟩) (DBig.mk n4 ⟨l4, (G 2).ss 1⟩))) 33),
              .k (iv n5)] (fun _ _ => by kernel_rfl) fun _ _ G13 kw14 => ?_
            intro S13 t13
            obtain ⟨⟨kl7, -⟩, ⟨kl8, -⟩, -⟩ : Lq l3 (((G13 2).ss 0).v) ∧ Lq l4 (((G13 2).ss 1).v) ∧ Lq out outs.v ∧ True := kn kw14 (by kernel_rfl)
            clear kw14
            refine nm (out ++ ([DFrac.mk (DBig.mk n3 ⟨l3, (G13 2).ss 0⟩) (DBig.mk n4 ⟨l4, (G13 2).ss 1⟩)] : List DFrac) : List DFrac) fun l5 hl5 => ?_
            have hl5n := congrArg List.length hl5; try simp only [List.length_append, List.length_cons, List.length_nil, List.length_replicate, List.length_set, List.length_take, List.length_drop, List.length_map, List.length_reverse, List.length_range] at hl5n
            refine V.reg [.k (outs.v),
              .ld 2 0 true (fun _ => Dat.cells (DFrac.mk (DBig.mk n3 ⟨l3, (G13 2).ss 0⟩) (DBig.mk n4 ⟨l4, (G13 2).ss 1⟩))),
              .nr 2 true 33 ([DFrac.mk (DBig.mk n3 ⟨l3, (G13 2).ss 0⟩) (DBig.mk n4 ⟨l4, (G13 2).ss 1⟩)] : List DFrac) [(kf true (.f 4) l3 (fun _ => (G13 2).ss 0)).a, (kf true (.f 5) l4 (fun _ => (G13 2).ss 1)).a] (fun _ _ h => (List.forall_mem_cons.2 ⟨(And.intro h.1 h.2.1), (List.forall_mem_nil _)⟩)) (fun _ => #[iv n3, ((G13 2).ss 0).v, iv n4, ((G13 2).ss 1).v]),
              .ap 3 3 33 64 false true out (fun _ => outs) (kf true (.g 2 0) ([DFrac.mk (DBig.mk n3 ⟨l3, (G13 2).ss 0⟩) (DBig.mk n4 ⟨l4, (G13 2).ss 1⟩)] : List DFrac) (fun G => ⟨atB (G 2).b, 1, 1⟩)) true l5 hl5 (by (try simp only [List.length_append, List.length_cons, List.length_nil, List.length_replicate, List.length_set, List.length_take, List.length_drop, List.length_map, List.length_reverse, List.length_range]); omega) (fun h => by cases h) (.inl fun _ => ⟨rfl, rfl⟩),
              .v fun G => ((G 3).s).v] (fun _ _ => by kernel_rfl) fun _ _ G14 kw15 => ?_
            intro S14 t14
            obtain ⟨⟨kl9, -⟩, -⟩ : Lq ([DFrac.mk (DBig.mk n3 ⟨l3, (G13 2).ss 0⟩) (DBig.mk n4 ⟨l4, (G13 2).ss 1⟩)] : List DFrac) (SV.v ⟨atB (G14 2).b, 1, 1⟩) ∧ Lq l5 (((G14 3).s).v) ∧ True := kn kw15 (by kernel_rfl)
            clear kw15
            refine V.go [.a (k0 + 1) (by omega) (by omega),
              .k (iv (k0 + 1))] (fun _ _ => by kernel_rfl) fun _ _ G15 => ?_
            intro S15 t15
            refine V.rnd hZ1 (l5, (G14 3).s, k0 + 1) [0, 1, 2] (by kernel_rfl) ?_ ?_
            · skip
              refine ⟨?_, ?_, ?_⟩
              · show 0 ≤ (k0 + 1)
                first | omega | rfl | (simp; done) | (subst_vars; simp; done)
              · show (k0 + 1) ≤ (weights.length : Int)
                first | omega | rfl | (simp; done) | (subst_vars; simp; done)
              · show Fr.Frs l5 ((weights.take (k0 + 1).toNat).map fun x => Fr.qv x / Fr.sumW weights)
                rw [hl5, show (k0 + 1).toNat = k0.toNat + 1 by omega, Fr.take_step (by omega), ← hx1, List.map_append]; exact hf3.snoc zd.rt zd.v
            · show ((weights.length : Int) - (k0 + 1)).toNat < ((weights.length : Int) - k0).toNat
              omega
          · skip
            refine V.go [.k (outs.v),
              .k (outs.v),
              .k (iv 0)] (fun _ _ => by kernel_rfl) fun _ _ G16 => ?_
            intro S16 t16
            refine V.frz 3 true 33 out outs (by kernel_rfl) ?_
            have e0 : Fr.Frs out (Fr.shQ weights) := by
              rw [Fr.shQ_y hE]; have hs := hf3; rw [show k0.toNat = weights.length by omega, List.take_length] at hs; exact hs
            obtain ⟨σ0, E0⟩ := Fr.frs_ex e0
            subst E0
            clear e0
            have e1 : (0 : Int) = Fr.shE weights := by
              exact hE.symm
            exact V.ret [0, 0] [outs] [σ0] [] [3] [] (.tuple #[outs.v, iv 0]) (fun _ _ => by kernel_rfl) (fun _ _ => (Eq.trans (by kernel_rfl) (cong1 (fun (x1 : Int) => (.tuple #[outs.v, iv x1] : Value)) e1)).trans (by kernel_rfl)) (fun _ _ => trivial)
theorem shares_ctv (weights : List DFrac) (weightss : SV) (hW : Fr.Wb weights) (rv1 : Int) (erv1 : rv1 = Fr.shE weights) :
    Ct Try.prog 10 #[weightss.v] [fs true weights weightss] [] (fun g => .tuple #[((g.ss 0)).v, iv rv1]) (fun g => [fs true (Fr.frs (Fr.shQ weights) (g.sl 0)) (g.ss 0)]) (fun g => []) (fun g => []) := by
  subst erv1; exact shares_ct weights weightss hW

end Kb
set_option linter.unusedVariables false
set_option linter.unusedSectionVars false
set_option linter.unusedSimpArgs false
namespace Kb
namespace Fr
open Bg
-- ---- order
/-- a stands before b -/
def ltR (q : List Rat) (a b : Int) : Prop := q.getD b.toNat 0 < q.getD a.toNat 0 ∨ (q.getD b.toNat 0 = q.getD a.toNat 0 ∧ a < b)
instance (q : List Rat) (a b : Int) : Decidable (ltR q a b) := by unfold ltR; infer_instance
theorem ltR_trans {q : List Rat} {a b c : Int} (h : ltR q a b) (k : ltR q b c) : ltR q a c := by
  unfold ltR at *
  generalize q.getD a.toNat 0 = x at *; generalize q.getD b.toNat 0 = y at *; generalize q.getD c.toNat 0 = z at *
  rcases h with h | ⟨h, h'⟩ <;> rcases k with k | ⟨k, k'⟩
  · left; grind
  · left; grind
  · left; grind
  · right; exact ⟨by grind, by omega⟩
theorem ltR_asymm {q : List Rat} {a b : Int} (h : ltR q a b) (k : ltR q b a) : False := by
  unfold ltR at *
  generalize q.getD a.toNat 0 = x at *; generalize q.getD b.toNat 0 = y at *
  rcases h with h | ⟨h, h'⟩ <;> rcases k with k | ⟨k, k'⟩
  · grind
  · grind
  · grind
  · omega
theorem ltR_or {q : List Rat} {a b : Int} (h : a ≠ b) : ltR q a b ∨ ltR q b a := by
  unfold ltR
  generalize q.getD a.toNat 0 = x at *; generalize q.getD b.toNat 0 = y at *
  by_cases h1 : y < x
  · exact .inl (.inl h1)
  · by_cases h2 : x < y
    · exact .inr (.inl h2)
    · have e : x = y := by grind
      rcases Int.lt_or_gt_of_ne h with h3 | h3
      · exact .inl (.inr ⟨e.symm, h3⟩)
      · exact .inr (.inr ⟨e, h3⟩)
def insR (q : List Rat) (x : Int) : List Int → List Int
  | [] => [x]
  | y :: l => if ltR q x y then x :: y :: l else y :: insR q x l
def iota (n : Nat) : List Int := (List.range n).map fun (i : Nat) => (i : Int)
def sortR (q : List Rat) : List Int → List Int
  | [] => []
  | x :: l => insR q x (sortR q l)
/-- the indices, the greatest rest first -/
def ord (q : List Rat) : List Int := sortR q (iota q.length)
theorem insR_perm (q : List Rat) (x : Int) : ∀ l, (insR q x l).Perm (x :: l)
  | [] => List.Perm.refl _
  | y :: l => by
    unfold insR
    split
    · exact List.Perm.refl _
    · exact ((insR_perm q x l).cons y).trans (List.Perm.swap x y l)
theorem sortR_perm (q : List Rat) : ∀ l, (sortR q l).Perm l
  | [] => List.Perm.refl _
  | x :: l => (insR_perm q x _).trans ((sortR_perm q l).cons x)
theorem insR_pw {q : List Rat} {x : Int} : ∀ {l : List Int}, l.Pairwise (ltR q) → x ∉ l → (insR q x l).Pairwise (ltR q)
  | [], _, _ => List.pairwise_singleton _ _
  | y :: l, h, hx => by
    unfold insR
    have hp := List.pairwise_cons.1 h
    split
    · rename_i hlt
      exact List.pairwise_cons.2 ⟨fun z hz => by rcases List.mem_cons.1 hz with rfl | hz; exact hlt; exact ltR_trans hlt (hp.1 z hz), h⟩
    · rename_i hlt
      refine List.pairwise_cons.2 ⟨fun z hz => ?_, insR_pw hp.2 fun k => hx (List.mem_cons_of_mem _ k)⟩
      rcases List.mem_cons.1 ((insR_perm q x l).subset hz) with rfl | hz
      · rcases ltR_or (q := q) (a := z) (b := y) (fun e => hx (by rw [e]; exact List.mem_cons_self)) with h1 | h1
        · exact (hlt h1).elim
        · exact h1
      · exact hp.1 z hz
theorem sortR_pw {q : List Rat} : ∀ {l : List Int}, l.Nodup → (sortR q l).Pairwise (ltR q)
  | [], _ => List.Pairwise.nil
  | x :: l, h => by
    have := List.nodup_cons.1 h
    exact insR_pw (sortR_pw this.2) fun k => this.1 ((sortR_perm q l).subset k)
theorem iota_len (n : Nat) : (iota n).length = n := by simp [iota]
theorem iota_nd (n : Nat) : (iota n).Nodup := by
  unfold iota; unfold List.Nodup; rw [List.pairwise_map]; exact List.nodup_range.imp fun h e => h (by omega)
theorem iota_mem {n : Nat} {i : Int} : i ∈ iota n ↔ 0 ≤ i ∧ i < n := by
  unfold iota; rw [List.mem_map]
  constructor
  · rintro ⟨k, hk, rfl⟩; have := List.mem_range.1 hk; omega
  · rintro ⟨h1, h2⟩; exact ⟨i.toNat, List.mem_range.2 (by omega), by omega⟩
theorem iota_get {n k : Nat} (h : k < n) : (iota n).getD k 0 = (k : Int) := by
  unfold iota; rw [List.getD_eq_getElem?_getD, List.getElem?_map, List.getElem?_range h]; rfl
theorem iota_succ (k : Nat) : iota (k + 1) = iota k ++ [(k : Int)] := by unfold iota; rw [List.range_succ, List.map_append]; rfl
theorem iota_take {n k : Nat} (h : k ≤ n) : (iota n).take k = iota k := by
  unfold iota; rw [← List.map_take, List.take_range, Nat.min_eq_left h]
theorem ord_perm (q : List Rat) : (ord q).Perm (iota q.length) := sortR_perm q _
theorem ord_pw (q : List Rat) : (ord q).Pairwise (ltR q) := sortR_pw (iota_nd _)
theorem ord_len (q : List Rat) : (ord q).length = q.length := by rw [(ord_perm q).length_eq, iota_len]
theorem ord_mem {q : List Rat} {i : Int} : i ∈ ord q ↔ 0 ≤ i ∧ i < q.length := by rw [(ord_perm q).mem_iff, iota_mem]
theorem ord_nd (q : List Rat) : (ord q).Nodup := (ord_perm q).nodup_iff.2 (iota_nd _)
theorem ord_is {q : List Rat} {d : List Int} (h : d.Pairwise (ltR q)) (k : d.Perm (iota q.length)) : d = ord q :=
  List.Perm.eq_of_pairwise (le := ltR q) (fun a b _ _ h1 h2 => (ltR_asymm h1 h2).elim) h (ord_pw q) (k.trans (ord_perm q).symm)
-- ---- inserting
structure InsI (q : List Rat) (d : List Int) (i : Nat) : Prop where
  len : d.length = q.length
  pw : (d.take i).Pairwise (ltR q)
  perm : (d.take i).Perm ((iota q.length).take i)
  rest : d.drop i = (iota q.length).drop i
structure InsJ (q : List Rat) (d : List Int) (i j : Nat) : Prop where
  ex : ∃ A B : List Int, d = A ++ (i : Int) :: (B ++ (iota q.length).drop (i + 1)) ∧ A.length = j ∧ A.length + B.length = i ∧ (A ++ B).Pairwise (ltR q) ∧ (∀ y ∈ B, ltR q i y) ∧ (A ++ B).Perm ((iota q.length).take i)
theorem InsJ.len {q : List Rat} {d : List Int} {i j : Nat} (h : InsJ q d i j) (hi : i < q.length) : d.length = q.length := by
  obtain ⟨A, B, rfl, h1, h2, _⟩ := h.ex
  simp [iota_len]; omega
theorem ins_start {q : List Rat} : InsI q (iota q.length) 1 := by
  refine ⟨iota_len _, ?_, List.Perm.refl _, rfl⟩
  cases iota q.length with
  | nil => simp
  | cons a l => simp
theorem ins_in {q : List Rat} {d : List Int} {i : Nat} (h : InsI q d i) (hi : i < q.length) : InsJ q d i i := by
  refine ⟨d.take i, [], ?_, by rw [List.length_take, h.len]; omega, by rw [List.length_take, h.len]; simp; omega, by rw [List.append_nil]; exact h.pw, by simp, by rw [List.append_nil]; exact h.perm⟩
  have e : (iota q.length).drop i = (i : Int) :: (iota q.length).drop (i + 1) := by
    rw [List.drop_eq_getElem_cons (by rw [iota_len]; exact hi)]
    congr 1
    have := iota_get hi
    rw [List.getD_eq_getElem?_getD, List.getElem?_eq_getElem (by rw [iota_len]; exact hi)] at this; exact this
  rw [List.nil_append, ← e, ← h.rest, List.take_append_drop]
theorem get_mid {A R : List Int} {x : Int} : (A ++ x :: R).getD A.length default = x := by
  rw [List.getD_eq_getElem?_getD, List.getElem?_append_right (Nat.le_refl _)]; simp
theorem set_mid' {A R : List Int} {x y : Int} : (A ++ x :: R).set A.length y = A ++ y :: R := by
  rw [List.set_append_right _ _ (Nat.le_refl _)]; simp
/-- what stands at j and ahead of it -/
theorem insJ_at {q : List Rat} {d : List Int} {i j : Nat} (h : InsJ q d i j) (hj : 0 < j) : d.getD j default = (i : Int) ∧ 0 ≤ d.getD (j - 1) default ∧ d.getD (j - 1) default < i := by
  obtain ⟨A, B, rfl, h1, h2, h3, h4, h5⟩ := h.ex
  obtain ⟨A', y, rfl⟩ : ∃ A' y, A = A' ++ [y] := ⟨A.dropLast, A.getLast (by intro e; subst e; simp at h1; omega), (List.dropLast_concat_getLast _).symm⟩
  have hl : A'.length = j - 1 := by simp at h1; omega
  refine ⟨by rw [← h1]; exact get_mid, ?_⟩
  have hy : ((A' ++ [y]) ++ (i : Int) :: (B ++ (iota q.length).drop (i + 1))).getD (j - 1) default = y := by rw [← hl, List.append_assoc]; exact get_mid
  rw [hy]
  have hm : y ∈ (iota q.length).take i := h5.subset (by simp)
  have := iota_mem.1 (List.mem_of_mem_take hm)
  rcases Nat.lt_or_ge i q.length with hi | hi
  · rw [iota_take (by omega)] at hm
    have := iota_mem.1 hm; omega
  · omega
theorem ins_step {q : List Rat} {d : List Int} {i j : Nat} (h : InsJ q d i j) (hj : 0 < j) (hlt : ltR q (d.getD j default) (d.getD (j - 1) default)) :
    InsJ q ((d.set j (d.getD (j - 1) default)).set (j - 1) (d.getD j default)) i (j - 1) := by
  have ha := (insJ_at h hj).1
  obtain ⟨A, B, rfl, h1, h2, h3, h4, h5⟩ := h.ex
  obtain ⟨A', y, rfl⟩ : ∃ A' y, A = A' ++ [y] := ⟨A.dropLast, A.getLast (by intro e; subst e; simp at h1; omega), (List.dropLast_concat_getLast _).symm⟩
  have hl : A'.length = j - 1 := by simp at h1; omega
  have hy : ((A' ++ [y]) ++ (i : Int) :: (B ++ (iota q.length).drop (i + 1))).getD (j - 1) default = y := by rw [← hl, List.append_assoc]; exact get_mid
  rw [ha, hy] at hlt
  rw [ha, hy]
  refine ⟨A', y :: B, ?_, hl, by simp at h2 ⊢; omega, by rw [List.append_assoc] at h3; exact h3, fun z hz => ?_, by rw [List.append_assoc] at h5; exact h5⟩
  · rw [show j = (A' ++ [y]).length from h1.symm, set_mid', show (A' ++ [y]).length - 1 = A'.length by simp, List.append_assoc, List.singleton_append, set_mid']; rfl
  · rcases List.mem_cons.1 hz with rfl | hz
    · exact hlt
    · exact h4 z hz
theorem ins_out {q : List Rat} {d : List Int} {i j : Nat} (h : InsJ q d i j) (hi : i < q.length) (hs : j = 0 ∨ ¬ ltR q (d.getD j default) (d.getD (j - 1) default)) : InsI q d (i + 1) := by
  have hlen := h.len hi
  have hat := fun hj => insJ_at h (j := j) hj
  obtain ⟨A, B, rfl, h1, h2, h3, h4, h5⟩ := h.ex
  have hnot : (i : Int) ∉ A ++ B := fun hm => by
    have := h5.subset hm
    rw [iota_take (by omega)] at this
    have := iota_mem.1 this; omega
  have htk : (A ++ (i : Int) :: (B ++ (iota q.length).drop (i + 1))).take (i + 1) = A ++ (i : Int) :: B := by
    rw [show A ++ (i : Int) :: (B ++ (iota q.length).drop (i + 1)) = (A ++ (i : Int) :: B) ++ (iota q.length).drop (i + 1) by simp]
    exact List.take_left' (by simp; omega)
  have hdr : (A ++ (i : Int) :: (B ++ (iota q.length).drop (i + 1))).drop (i + 1) = (iota q.length).drop (i + 1) := by
    rw [show A ++ (i : Int) :: (B ++ (iota q.length).drop (i + 1)) = (A ++ (i : Int) :: B) ++ (iota q.length).drop (i + 1) by simp]
    exact List.drop_left' (by simp; omega)
  have hall : ∀ x ∈ A, ltR q x i := fun x hx => by
    rcases hs with hs | hs
    · subst hs; rw [List.eq_nil_of_length_eq_zero h1] at hx; cases hx
    · have hj : 0 < j := by rw [← h1]; exact List.length_pos_of_mem hx
      obtain ⟨A', y, rfl⟩ : ∃ A' y, A = A' ++ [y] := ⟨A.dropLast, A.getLast (List.ne_nil_of_mem hx), (List.dropLast_concat_getLast _).symm⟩
      have hl : A'.length = j - 1 := by simp at h1; omega
      have hy : ((A' ++ [y]) ++ (i : Int) :: (B ++ (iota q.length).drop (i + 1))).getD (j - 1) default = y := by rw [← hl, List.append_assoc]; exact get_mid
      rw [(hat hj).1, hy] at hs
      have hyi : ltR q y i := by
        rcases ltR_or (q := q) (a := y) (b := i) (fun e => hnot (by rw [← e]; simp)) with h6 | h6
        · exact h6
        · exact (hs h6).elim
      rcases List.mem_append.1 hx with hx | hx
      · refine ltR_trans ?_ hyi
        have := (List.pairwise_append.1 h3).1
        exact (List.pairwise_append.1 this).2.2 x hx y (by simp)
      · rw [List.mem_singleton.1 hx]; exact hyi
  have hp := List.pairwise_append.1 h3
  refine ⟨hlen, ?_, ?_, hdr⟩
  · rw [htk]
    refine List.pairwise_append.2 ⟨hp.1, List.pairwise_cons.2 ⟨h4, hp.2.1⟩, fun x hx z hz => ?_⟩
    rcases List.mem_cons.1 hz with rfl | hz
    · exact hall x hx
    · exact hp.2.2 x hx z hz
  · rw [htk, iota_take (by omega), iota_succ]
    rw [iota_take (by omega)] at h5
    refine List.Perm.trans (List.perm_middle) (List.Perm.trans (h5.cons _) ?_)
    exact (List.perm_append_singleton (i : Int) (iota i)).symm
theorem ins_end {q : List Rat} {d : List Int} {i : Nat} (h : InsI q d i) (hi : q.length ≤ i) : d = ord q := by
  have h1 := h.pw; have h2 := h.perm
  rw [List.take_of_length_le (by rw [h.len]; exact hi)] at h1 h2
  rw [List.take_of_length_le (by rw [iota_len]; exact hi)] at h2
  exact ord_is h1 h2
end Fr
end Kb
