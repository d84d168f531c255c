/- Texts for the claim, put together (part 7 of 7): contracts of the functions that the law reaches. -/
import Derived.Test.YtjcgaaalpcofhaaZywf
import Derived.Test.YtjcgaaalpcofhaaZywa
import Derived.ChangeSame
import Derived.Test.YtjcgaaalpcofhaaZywb
import Derived.ChangeArms
import Derived.WideKeyArgs
import Derived.Carry
import Derived.OpenShut
import Derived.Test.YtjcgaaalpcofhaaZywc
import Derived.Test.YtjcgaaalpcofhaaChecked
set_option linter.unusedVariables false
set_option linter.unusedSectionVars false
set_option linter.unusedSimpArgs false
namespace Kb
open Go Go.Proofs
set_option maxRecDepth 10000 in
theorem wholelaw_ct (weights : List DFrac) (weightss : SV) (total : Int) :
    Cp Try.prog 5 #[weightss.v, iv total] [fs true weights weightss] (bv true) := by
  refine V.fn mo Try.func5 140 3 (by kernel_rfl) fun w H ε k0 => ?_
  obtain ⟨⟨kl1, -⟩, -⟩ : Lq weights weightss.v ∧ True := kn k0 (by kernel_rfl)
  clear k0
  refine V.go [.kb false] (fun _ _ => by kernel_rfl) fun _ _ G1 => ?_
  intro S1 t1
  refine V.go [.cp g0 0 8 [] (fun _ G => sane30_ct ),
    .kb true] (fun _ _ => by kernel_rfl) fun _ _ G2 => ?_
  intro S2 t2
  refine V.go [.k (weightss.v),
    .cp g0 1 9 [(kf false (.f 0) weights (fun _ => weightss)).a] (fun _ G => few30_ct weights weightss),
    .k (bv (!(decide (Fr.few30 weights))))] (fun _ _ => by kernel_rfl) fun _ _ G3 => ?_
  intro S3 t3
  refine V.cond (b := !(decide (Fr.few30 weights))) (iNT iDF) (iNF iDT) (by kernel_rfl) (fun q1 => ?_) (fun q2 => ?_)
  · skip
    refine V.go [.kb true,
      .kb true] (fun _ _ => by kernel_rfl) fun _ _ G4 => ?_
    intro S4 t4
    exact V.ret [0] [] [] [] [] [] (bv true) (fun _ _ => by kernel_rfl) (fun _ _ => by kernel_rfl) (fun _ _ => trivial)
  · skip
    have hF : Fr.few30 weights := by have hqq := q2; first | exact hqq | exact Decidable.not_not.1 hqq | exact hqq.1 | exact Decidable.not_not.1 hqq.1 | exact hqq.1.1 | exact Decidable.not_not.1 hqq.1.1 | exact hqq.1.1.1 | exact Decidable.not_not.1 hqq.1.1.1
    refine nm (Fr.shE weights : Int) fun n1 hn1 => ?_
    refine V.reg [.k (weightss.v),
      .ct g0 1 10 false [] [] [(kf false (.f 0) weights (fun _ => weightss)).a] (fun _ G => shares_ctv weights weightss (Fr.few30_wb hF) n1 hn1),
      .v fun G => .tuple #[((G 1).ss 0).v, iv n1],
      .v fun G => ((G 1).ss 0).v,
      .k (iv n1),
      .v fun G => ((G 1).ss 0).v,
      .k (iv n1)] (fun _ _ => by kernel_rfl) fun _ _ G5 kw5 => ?_
    intro S5 t5
    obtain ⟨⟨kl2, -⟩, -⟩ : Lq (Fr.frs (Fr.shQ weights) ((G5 1).sl 0)) (((G5 1).ss 0).v) ∧ True := kn kw5 (by kernel_rfl)
    clear kw5
    refine V.go [.k (iv n1),
      .k (bv (!(decide (n1 = 0))))] (fun _ _ => by kernel_rfl) fun _ _ G6 => ?_
    intro S6 t6
    refine V.cond (b := !(decide (n1 = 0))) (iNT iDF) (iNF iDT) (by kernel_rfl) (fun q3 => ?_) (fun q4 => ?_)
    · skip
      refine V.go [.kb true,
        .kb true,
        .k (((G5 1).ss 0).v),
        .ln (kf true (.f 1) (Fr.frs (Fr.shQ weights) ((G5 1).sl 0)) (fun _ => (G5 1).ss 0)),
        .k (bv (decide (((Fr.frs (Fr.shQ weights) ((G5 1).sl 0)).length : Int) = 0))),
        .k (bv (decide (((Fr.frs (Fr.shQ weights) ((G5 1).sl 0)).length : Int) = 0))),
        .k (bv (decide (((Fr.frs (Fr.shQ weights) ((G5 1).sl 0)).length : Int) = 0)))] (fun _ _ => by kernel_rfl) fun _ _ G7 => ?_
      intro S7 t7
      have e0 : (decide (((Fr.frs (Fr.shQ weights) ((G5 1).sl 0)).length : Int) = 0)) = true := by
        refine iDT.2 ?_
        rw [Fr.frs_len, Fr.shQ_n (by rw [← hn1]; exact q3)]; rfl
      exact V.ret [0] [] [] [] [] [] (bv (decide (((Fr.frs (Fr.shQ weights) ((G5 1).sl 0)).length : Int) = 0))) (fun _ _ => by kernel_rfl) (fun _ _ => (Eq.trans (by kernel_rfl) (cong1 (fun (x0 : Bool) => (bv x0 : Value)) e0)).trans (by kernel_rfl)) (fun _ _ => trivial)
    · skip
      have hE : Fr.shE weights = 0 := by have hqq := q4; rw [← hn1]; first | exact hqq | exact Decidable.not_not.1 hqq
      have hLb := Fr.shQ_wb hF hE ((G5 1).sl 0)
      have hLl : (Fr.frs (Fr.shQ weights) ((G5 1).sl 0)).length = weights.length := by rw [Fr.frs_len, Fr.shQ_len hE]
      have hL20 := hF.1
      have hLr : ∀ x ∈ Fr.frs (Fr.shQ weights) ((G5 1).sl 0), Fr.rt x := Fr.frs_rt
      have hWr := (Fr.shE_is hE).2.1
      refine V.go [.k (((G5 1).ss 0).v),
        .ln (kf true (.f 1) (Fr.frs (Fr.shQ weights) ((G5 1).sl 0)) (fun _ => (G5 1).ss 0)),
        .k (weightss.v),
        .ln (kf false (.f 0) weights (fun _ => weightss)),
        .k (bv (!(decide (((Fr.frs (Fr.shQ weights) ((G5 1).sl 0)).length : Int) = (weights.length : Int)))))] (fun _ _ => by kernel_rfl) fun _ _ G8 => ?_
      intro S8 t8
      refine V.cond (b := !(decide (((Fr.frs (Fr.shQ weights) ((G5 1).sl 0)).length : Int) = (weights.length : Int)))) (iNT iDF) (iNF iDT) (by kernel_rfl) (fun q5 => ?_) (fun q6 => ?_)
      · skip
        exfalso; omega
      · skip
        refine nm (Bg.sgn (0 : Int) : Int) fun n2 hn2 => ?_
        refine nm (Bg.dig (0 : Int).natAbs : List Int) fun l1 hl1 => ?_
        have hl1n := congrArg List.length hl1
        refine nm (Bg.dig 1 : List Int) fun l2 hl2 => ?_
        have hl2n := congrArg List.length hl2
        refine V.reg [.ct g0 0 18 false [] [] [] (fun _ G => fint_ctv (0 : Int) (by omega) n2 hn2 l1 hl1 l2 hl2),
          .nb 1 0 (fun b => pp b 0) 33 (fun _ => ca (DFrac.mk (DBig.mk 0 ⟨[], {}⟩) (DBig.mk 0 ⟨[], {}⟩))),
          .st 0 (fun G => .blk ((G 1).b) (ca (DFrac.mk (DBig.mk n2 ⟨l1, (G 0).ss 0⟩) (DBig.mk 1 ⟨l2, (G 0).ss 1⟩))) 33)] (fun _ _ => by kernel_rfl) fun _ _ G9 kw9 => ?_
        intro S9 t9
        obtain ⟨⟨kl3, -⟩, ⟨kl4, -⟩, -⟩ : Lq l1 (((G9 0).ss 0).v) ∧ Lq l2 (((G9 0).ss 1).v) ∧ True := kn kw9 (by kernel_rfl)
        clear kw9
        refine V.go [.k (iv 0)] (fun _ _ => by kernel_rfl) fun _ _ G10 => ?_
        intro S10 t10
        refine V.loop (γ := Int × Int × List Int × SV × Int × List Int × SV) (fun ⟨i, sum_0, sum_1, sum_1s, sum_2, sum_3, sum_3s⟩ => ⟨[(0, weightss.v), (1, iv total), (5, bv true), (6, ((G5 1).ss 0).v), (8, pp ((G9 1).b) 0), (9, iv i)], [fs false weights weightss, fs true (Fr.frs (Fr.shQ weights) ((G5 1).sl 0)) ((G5 1).ss 0), fs true sum_1 sum_1s, fs true sum_3 sum_3s], [.blk ((G9 1).b) (ca (DFrac.mk (DBig.mk sum_0 ⟨sum_1, sum_1s⟩) (DBig.mk sum_2 ⟨sum_3, sum_3s⟩))) 33, .no, .no]⟩) (fun ⟨i, sum_0, sum_1, sum_1s, sum_2, sum_3, sum_3s⟩ => (0 ≤ i) ∧ (i ≤ ((Fr.frs (Fr.shQ weights) ((G5 1).sl 0)).length : Int)) ∧ (0 ≤ i) ∧ (i ≤ (weights.length : Int)) ∧ (Fr.Fz sum_0 sum_1 sum_2 sum_3 (Fr.sumQ (((Fr.frs (Fr.shQ weights) ((G5 1).sl 0)).take i.toNat).map Fr.qv)))) (fun ⟨i, sum_0, sum_1, sum_1s, sum_2, sum_3, sum_3s⟩ => ((weights.length : Int) - i).toNat) (0, n2, l1, (G9 0).ss 0, 1, l2, (G9 0).ss 1) (by kernel_rfl) [0, 1, 2, 3] (by kernel_rfl) ?_ ?_
        · skip
          refine ⟨?_, ?_, ?_, ?_, ?_⟩
          · show 0 ≤ (0 : Int)
            first | omega | rfl | (simp; done) | (subst_vars; simp; done)
          · show (0 : Int) ≤ ((Fr.frs (Fr.shQ weights) ((G5 1).sl 0)).length : Int)
            first | omega | rfl | (simp; done) | (subst_vars; simp; done)
          · show 0 ≤ (0 : Int)
            omega
          · show (0 : Int) ≤ (weights.length : Int)
            omega
          · show Fr.Fz n2 l1 (1 : Int) l2 (Fr.sumQ (((Fr.frs (Fr.shQ weights) ((G5 1).sl 0)).take (0 : Int).toNat).map Fr.qv))
            subst_vars; exact Fr.sum0 _
        · rintro ⟨i, sum_0, sum_1, sum_1s, sum_2, sum_3, sum_3s⟩ hF1 kw11 Z1 hZ1
          have hF1 : (0 ≤ i) ∧ (i ≤ ((Fr.frs (Fr.shQ weights) ((G5 1).sl 0)).length : Int)) ∧ (0 ≤ i) ∧ (i ≤ (weights.length : Int)) ∧ (Fr.Fz sum_0 sum_1 sum_2 sum_3 (Fr.sumQ (((Fr.frs (Fr.shQ weights) ((G5 1).sl 0)).take i.toNat).map Fr.qv))) := hF1
          obtain ⟨hf1, hf2, hf3, hf4, hf5⟩ := hF1
          obtain ⟨-, -, ⟨kl5, -⟩, ⟨kl6, -⟩, -⟩ : Lq weights weightss.v ∧ Lq (Fr.frs (Fr.shQ weights) ((G5 1).sl 0)) (((G5 1).ss 0).v) ∧ Lq sum_1 sum_1s.v ∧ Lq sum_3 sum_3s.v ∧ True := kn kw11 (by kernel_rfl)
          clear kw11
          have hFl := hf5.len (hLb.hb hLr i.toNat)
          have hFl1 := hFl.1; have hFl2 := hFl.2
          refine V.go [.k (iv i),
            .k (((G5 1).ss 0).v),
            .ln (kf true (.f 1) (Fr.frs (Fr.shQ weights) ((G5 1).sl 0)) (fun _ => (G5 1).ss 0)),
            .k (bv (decide (i < ((Fr.frs (Fr.shQ weights) ((G5 1).sl 0)).length : Int))))] (fun _ _ => by kernel_rfl) fun _ _ G11 => ?_
          intro S11 t11
          refine V.cond (b := decide (i < ((Fr.frs (Fr.shQ weights) ((G5 1).sl 0)).length : Int))) iDT iDF (by kernel_rfl) (fun q7 => ?_) (fun q8 => ?_)
          · skip
            refine nm ((Fr.frs (Fr.shQ weights) ((G5 1).sl 0)).getD i.toNat default : DFrac) fun x1 hx1 => ?_
            refine nm (if Fr.FrB x1.P.Sign x1.P.Digits.l x1.Q.Sign x1.Q.Digits.l then x1.P.Sign else 0 : Int) fun n3 hn3 => ?_
            refine nm ((!(decide (Fr.FrB x1.P.Sign x1.P.Digits.l x1.Q.Sign x1.Q.Digits.l))) || (decide (n3 < 0)) : Bool) fun p1 hp1 => ?_
            have hx1m := getD_mem (l := Fr.frs (Fr.shQ weights) ((G5 1).sl 0)) (k := i.toNat) (by omega) hx1; have hx1r := hLr _ hx1m; have hx1l := hLb.2 _ hx1m; have hx11 := hx1l.1; have hx12 := hx1l.2
            have hxn : 0 ≤ Fr.qv x1 := Fr.shQ_nonneg hE _ (by have h1 := List.mem_map_of_mem (f := Fr.qv) hx1m; rw [Fr.frs_qv] at h1; exact h1)
            have hxs : 0 ≤ n3 := by rw [hn3, if_pos (show Fr.FrB _ _ _ _ from hx1r), hx1r.z.eqs.1]; exact Int.not_lt.1 fun k => Rat.not_lt.2 hxn (Fr.sgn_num.1.1 k)
            refine V.reg [.k (((G5 1).ss 0).v),
              .k (iv i),
              .ix g0 (kf true (.f 1) (Fr.frs (Fr.shQ weights) ((G5 1).sl 0)) (fun _ => (G5 1).ss 0)) i (fun _ => ⟨by omega, by omega⟩),
              .le g0 (kf true (.f 1) (Fr.frs (Fr.shQ weights) ((G5 1).sl 0)) (fun _ => (G5 1).ss 0)) i none true x1 hx1 (fun _ => ⟨by omega, by omega⟩) true (fun _ => Dat.cells x1),
              .cp g0 4 19 [(kx true (.g 3 0) x1 x1.P.Digits.l (fun _ => x1.P.Digits.s) (fun _ H (h : Dat.good H (x1 : DFrac)) => h.1)).a, (kx true (.g 3 0) x1 x1.Q.Digits.l (fun _ => x1.Q.Digits.s) (fun _ H (h : Dat.good H (x1 : DFrac)) => h.2)).a] (fun _ G => right_ct x1.P.Sign x1.P.Digits.l x1.P.Digits.s x1.Q.Sign x1.Q.Digits.l x1.Q.Digits.s (by omega) (by omega)),
              .k (bv (!(decide (Fr.FrB x1.P.Sign x1.P.Digits.l x1.Q.Sign x1.Q.Digits.l)))),
              .k (bv (!(decide (Fr.FrB x1.P.Sign x1.P.Digits.l x1.Q.Sign x1.Q.Digits.l)))),
              .k (((G5 1).ss 0).v),
              .k (iv i),
              .ix (gF (b := !(decide (Fr.FrB x1.P.Sign x1.P.Digits.l x1.Q.Sign x1.Q.Digits.l))) (iNF iDT)) (kf true (.f 1) (Fr.frs (Fr.shQ weights) ((G5 1).sl 0)) (fun _ => (G5 1).ss 0)) i (fun hg => ⟨by omega, by omega⟩),
              .le (gF (b := !(decide (Fr.FrB x1.P.Sign x1.P.Digits.l x1.Q.Sign x1.Q.Digits.l))) (iNF iDT)) (kf true (.f 1) (Fr.frs (Fr.shQ weights) ((G5 1).sl 0)) (fun _ => (G5 1).ss 0)) i none true x1 hx1 (fun hg => ⟨by omega, by omega⟩) true (fun _ => Dat.cells x1),
              .cp (gF (b := !(decide (Fr.FrB x1.P.Sign x1.P.Digits.l x1.Q.Sign x1.Q.Digits.l))) (iNF iDT)) 11 20 [(kx true (.g 10 0) x1 x1.P.Digits.l (fun _ => x1.P.Digits.s) (fun _ H (h : Dat.good H (x1 : DFrac)) => h.1)).a, (kx true (.g 10 0) x1 x1.Q.Digits.l (fun _ => x1.Q.Digits.s) (fun _ H (h : Dat.good H (x1 : DFrac)) => h.2)).a] (fun hg G => fsign_ctv x1.P.Sign x1.P.Digits.l x1.P.Digits.s x1.Q.Sign x1.Q.Digits.l x1.Q.Digits.s (by omega) (by omega) n3 hn3),
              .k (bv (decide (n3 < 0))),
              .orn g0 false (!(decide (Fr.FrB x1.P.Sign x1.P.Digits.l x1.Q.Sign x1.Q.Digits.l))) (decide (n3 < 0)) p1 hp1] (fun _ _ => by kernel_rfl) fun _ _ G12 kw13 => ?_
            intro S12 t12
            obtain ⟨⟨⟨kl7, -⟩, ⟨kl8, -⟩⟩, -⟩ : (Lq x1.P.Digits.l x1.P.Digits.s.v ∧ Lq x1.Q.Digits.l x1.Q.Digits.s.v) ∧ True := kn kw13 (by kernel_rfl)
            clear kw13
            refine V.cond (b := p1) (iN hp1 (iOT (iNT iDF) iDT)) (iN hp1 (iOF (iNF iDT) iDF)) (by kernel_rfl) (fun q9 => ?_) (fun q10 => ?_)
            · skip
              exfalso; have hqq := q9; rcases hqq with h | h; exact h hx1r; omega
            · skip
              refine nm (Fr.rS (Fr.FrB sum_0 sum_1 sum_2 sum_3 ∧ Fr.FrB x1.P.Sign x1.P.Digits.l x1.Q.Sign x1.Q.Digits.l) ((Fr.fq sum_0 sum_1 sum_3) + (Fr.fq x1.P.Sign x1.P.Digits.l x1.Q.Digits.l)) : Int) fun n4 hn4 => ?_
              refine nm (Fr.rD (Fr.FrB sum_0 sum_1 sum_2 sum_3 ∧ Fr.FrB x1.P.Sign x1.P.Digits.l x1.Q.Sign x1.Q.Digits.l) ((Fr.fq sum_0 sum_1 sum_3) + (Fr.fq x1.P.Sign x1.P.Digits.l x1.Q.Digits.l)) : List Int) fun l3 hl3 => ?_
              have hl3n := congrArg List.length hl3
              refine nm (Fr.rT (Fr.FrB sum_0 sum_1 sum_2 sum_3 ∧ Fr.FrB x1.P.Sign x1.P.Digits.l x1.Q.Sign x1.Q.Digits.l) : Int) fun n5 hn5 => ?_
              refine nm (Fr.rE (Fr.FrB sum_0 sum_1 sum_2 sum_3 ∧ Fr.FrB x1.P.Sign x1.P.Digits.l x1.Q.Sign x1.Q.Digits.l) ((Fr.fq sum_0 sum_1 sum_3) + (Fr.fq x1.P.Sign x1.P.Digits.l x1.Q.Digits.l)) : List Int) fun l4 hl4 => ?_
              have hl4n := congrArg List.length hl4
              refine nm (if ¬ (Fr.FrB sum_0 sum_1 sum_2 sum_3 ∧ Fr.FrB x1.P.Sign x1.P.Digits.l x1.Q.Sign x1.Q.Digits.l) then (1 : Int) else 0 : Int) fun n6 hn6 => ?_
              have zs := Fr.Fz.of ⟨hf5.rt, hx1r⟩ hn4 hl3 hn5 hl4
              rw [hf5.v] at zs
              refine V.reg [.ld 0 0 true (fun _ => Dat.cells (DFrac.mk (DBig.mk sum_0 ⟨sum_1, sum_1s⟩) (DBig.mk sum_2 ⟨sum_3, sum_3s⟩))),
                .k (((G5 1).ss 0).v),
                .k (iv i),
                .ix g0 (kf true (.f 1) (Fr.frs (Fr.shQ weights) ((G5 1).sl 0)) (fun _ => (G5 1).ss 0)) i (fun _ => ⟨by omega, by omega⟩),
                .le g0 (kf true (.f 1) (Fr.frs (Fr.shQ weights) ((G5 1).sl 0)) (fun _ => (G5 1).ss 0)) i none true x1 hx1 (fun _ => ⟨by omega, by omega⟩) true (fun _ => Dat.cells x1),
                .ct g0 5 14 false [] [] [(kf true (.f 2) sum_1 (fun _ => sum_1s)).a, (kf true (.f 3) sum_3 (fun _ => sum_3s)).a, (kx true (.g 4 0) x1 x1.P.Digits.l (fun _ => x1.P.Digits.s) (fun _ H (h : Dat.good H (x1 : DFrac)) => h.1)).a, (kx true (.g 4 0) x1 x1.Q.Digits.l (fun _ => x1.Q.Digits.s) (fun _ H (h : Dat.good H (x1 : DFrac)) => h.2)).a] (fun _ G => fadd_ctv sum_0 sum_1 sum_1s sum_2 sum_3 sum_3s x1.P.Sign x1.P.Digits.l x1.P.Digits.s x1.Q.Sign x1.Q.Digits.l x1.Q.Digits.s (by omega) (by omega) (by omega) (by omega) n4 hn4 l3 hl3 n5 hn5 l4 hl4 n6 hn6),
                .v fun G => .tuple #[ag (DFrac.mk (DBig.mk n4 ⟨l3, (G 5).ss 0⟩) (DBig.mk n5 ⟨l4, (G 5).ss 1⟩)), iv n6],
                .v fun G => ag (DFrac.mk (DBig.mk n4 ⟨l3, (G 5).ss 0⟩) (DBig.mk n5 ⟨l4, (G 5).ss 1⟩)),
                .k (iv n6),
                .st 0 (fun G => .blk ((G9 1).b) (ca (DFrac.mk (DBig.mk n4 ⟨l3, (G 5).ss 0⟩) (DBig.mk n5 ⟨l4, (G 5).ss 1⟩))) 33)] (fun _ _ => by kernel_rfl) fun _ _ G13 kw14 => ?_
              intro S13 t13
              obtain ⟨⟨⟨kl9, -⟩, ⟨kl10, -⟩⟩, ⟨kl11, -⟩, ⟨kl12, -⟩, -⟩ : (Lq x1.P.Digits.l x1.P.Digits.s.v ∧ Lq x1.Q.Digits.l x1.Q.Digits.s.v) ∧ Lq l3 (((G13 5).ss 0).v) ∧ Lq l4 (((G13 5).ss 1).v) ∧ True := kn kw14 (by kernel_rfl)
              clear kw14
              refine nm ((i + 1) % ((Fr.frs (Fr.shQ weights) ((G5 1).sl 0)).length : Int) : Int) fun n7 hn7 => ?_
              refine V.go [.k (iv i),
                .a (i + 1) (by omega) (by omega),
                .k (((G5 1).ss 0).v),
                .ln (kf true (.f 1) (Fr.frs (Fr.shQ weights) ((G5 1).sl 0)) (fun _ => (G5 1).ss 0)),
                .rmv g0 (i + 1) ((Fr.frs (Fr.shQ weights) ((G5 1).sl 0)).length : Int) n7 hn7 (fun _ => ⟨by omega, by omega⟩),
                .k (iv n7)] (fun _ _ => by kernel_rfl) fun _ _ G14 => ?_
              intro S14 t14
              have hh : (0 : Int) < (Fr.frs (Fr.shQ weights) ((G5 1).sl 0)).length := by omega
              have hk0 : 0 ≤ n7 ∧ n7 < (weights.length : Int) := by rw [hn7]; exact ⟨Int.emod_nonneg _ (Int.ne_of_gt hh), by rw [← hLl]; exact Int.emod_lt_of_pos _ hh⟩
              refine nm (weights.getD n7.toNat default : DFrac) fun x2 hx2 => ?_
              refine nm (Fr.rS (Fr.FrB x1.P.Sign x1.P.Digits.l x1.Q.Sign x1.Q.Digits.l ∧ Fr.FrB x2.P.Sign x2.P.Digits.l x2.Q.Sign x2.Q.Digits.l) ((Fr.fq x1.P.Sign x1.P.Digits.l x1.Q.Digits.l) * (Fr.fq x2.P.Sign x2.P.Digits.l x2.Q.Digits.l)) : Int) fun n8 hn8 => ?_
              refine nm (Fr.rD (Fr.FrB x1.P.Sign x1.P.Digits.l x1.Q.Sign x1.Q.Digits.l ∧ Fr.FrB x2.P.Sign x2.P.Digits.l x2.Q.Sign x2.Q.Digits.l) ((Fr.fq x1.P.Sign x1.P.Digits.l x1.Q.Digits.l) * (Fr.fq x2.P.Sign x2.P.Digits.l x2.Q.Digits.l)) : List Int) fun l5 hl5 => ?_
              have hl5n := congrArg List.length hl5
              refine nm (Fr.rT (Fr.FrB x1.P.Sign x1.P.Digits.l x1.Q.Sign x1.Q.Digits.l ∧ Fr.FrB x2.P.Sign x2.P.Digits.l x2.Q.Sign x2.Q.Digits.l) : Int) fun n9 hn9 => ?_
              refine nm (Fr.rE (Fr.FrB x1.P.Sign x1.P.Digits.l x1.Q.Sign x1.Q.Digits.l ∧ Fr.FrB x2.P.Sign x2.P.Digits.l x2.Q.Sign x2.Q.Digits.l) ((Fr.fq x1.P.Sign x1.P.Digits.l x1.Q.Digits.l) * (Fr.fq x2.P.Sign x2.P.Digits.l x2.Q.Digits.l)) : List Int) fun l6 hl6 => ?_
              have hl6n := congrArg List.length hl6
              refine nm (if ¬ (Fr.FrB x1.P.Sign x1.P.Digits.l x1.Q.Sign x1.Q.Digits.l ∧ Fr.FrB x2.P.Sign x2.P.Digits.l x2.Q.Sign x2.Q.Digits.l) then (1 : Int) else 0 : Int) fun n10 hn10 => ?_
              have hx2m := getD_mem (l := weights) (k := n7.toNat) (by omega) hx2; have hx2r := hWr _ hx2m; have hx2l := (Fr.few30_wb hF).2 _ hx2m; have hx21 := hx2l.1; have hx22 := hx2l.2
              have z1 := Fr.Fz.of ⟨hx1r, hx2r⟩ hn8 hl5 hn9 hl6
              refine V.reg [.k (((G5 1).ss 0).v),
                .k (iv i),
                .ix g0 (kf true (.f 1) (Fr.frs (Fr.shQ weights) ((G5 1).sl 0)) (fun _ => (G5 1).ss 0)) i (fun _ => ⟨by omega, by omega⟩),
                .le g0 (kf true (.f 1) (Fr.frs (Fr.shQ weights) ((G5 1).sl 0)) (fun _ => (G5 1).ss 0)) i none true x1 hx1 (fun _ => ⟨by omega, by omega⟩) true (fun _ => Dat.cells x1),
                .k (weightss.v),
                .k (iv n7),
                .ix g0 (kf false (.f 0) weights (fun _ => weightss)) n7 (fun _ => ⟨by omega, by omega⟩),
                .le g0 (kf false (.f 0) weights (fun _ => weightss)) n7 none true x2 hx2 (fun _ => ⟨by omega, by omega⟩) true (fun _ => Dat.cells x2),
                .ct g0 8 11 false [] [] [(kx true (.g 3 0) x1 x1.P.Digits.l (fun _ => x1.P.Digits.s) (fun _ H (h : Dat.good H (x1 : DFrac)) => h.1)).a, (kx true (.g 3 0) x1 x1.Q.Digits.l (fun _ => x1.Q.Digits.s) (fun _ H (h : Dat.good H (x1 : DFrac)) => h.2)).a, (kx false (.g 7 0) x2 x2.P.Digits.l (fun _ => x2.P.Digits.s) (fun _ H (h : Dat.good H (x2 : DFrac)) => h.1)).a, (kx false (.g 7 0) x2 x2.Q.Digits.l (fun _ => x2.Q.Digits.s) (fun _ H (h : Dat.good H (x2 : DFrac)) => h.2)).a] (fun _ G => fmul_ctv x1.P.Sign x1.P.Digits.l x1.P.Digits.s x1.Q.Sign x1.Q.Digits.l x1.Q.Digits.s x2.P.Sign x2.P.Digits.l x2.P.Digits.s x2.Q.Sign x2.Q.Digits.l x2.Q.Digits.s (by omega) (by omega) (by omega) (by omega) n8 hn8 l5 hl5 n9 hn9 l6 hl6 n10 hn10),
                .v fun G => .tuple #[ag (DFrac.mk (DBig.mk n8 ⟨l5, (G 8).ss 0⟩) (DBig.mk n9 ⟨l6, (G 8).ss 1⟩)), iv n10],
                .v fun G => ag (DFrac.mk (DBig.mk n8 ⟨l5, (G 8).ss 0⟩) (DBig.mk n9 ⟨l6, (G 8).ss 1⟩)),
                .k (iv n10),
                .nb 12 1 (fun b => pp b 0) 33 (fun _ => ca (DFrac.mk (DBig.mk 0 ⟨[], {}⟩) (DBig.mk 0 ⟨[], {}⟩))),
                .st 1 (fun G => .blk ((G 12).b) (ca (DFrac.mk (DBig.mk n8 ⟨l5, (G 8).ss 0⟩) (DBig.mk n9 ⟨l6, (G 8).ss 1⟩))) 33),
                .k (iv n10)] (fun _ _ => by kernel_rfl) fun _ _ G15 kw16 => ?_
              intro S15 t15
              obtain ⟨⟨⟨kl13, -⟩, ⟨kl14, -⟩⟩, ⟨⟨kl15, -⟩, ⟨kl16, -⟩⟩, ⟨kl17, -⟩, ⟨kl18, -⟩, -⟩ : (Lq x1.P.Digits.l x1.P.Digits.s.v ∧ Lq x1.Q.Digits.l x1.Q.Digits.s.v) ∧ (Lq x2.P.Digits.l x2.P.Digits.s.v ∧ Lq x2.Q.Digits.l x2.Q.Digits.s.v) ∧ Lq l5 (((G15 8).ss 0).v) ∧ Lq l6 (((G15 8).ss 1).v) ∧ True := kn kw16 (by kernel_rfl)
              clear kw16
              refine nm ((Fr.frs (Fr.shQ weights) ((G5 1).sl 0)).getD n7.toNat default : DFrac) fun x3 hx3 => ?_
              refine nm (weights.getD i.toNat default : DFrac) fun x4 hx4 => ?_
              refine nm (Fr.rS (Fr.FrB x3.P.Sign x3.P.Digits.l x3.Q.Sign x3.Q.Digits.l ∧ Fr.FrB x4.P.Sign x4.P.Digits.l x4.Q.Sign x4.Q.Digits.l) ((Fr.fq x3.P.Sign x3.P.Digits.l x3.Q.Digits.l) * (Fr.fq x4.P.Sign x4.P.Digits.l x4.Q.Digits.l)) : Int) fun n11 hn11 => ?_
              refine nm (Fr.rD (Fr.FrB x3.P.Sign x3.P.Digits.l x3.Q.Sign x3.Q.Digits.l ∧ Fr.FrB x4.P.Sign x4.P.Digits.l x4.Q.Sign x4.Q.Digits.l) ((Fr.fq x3.P.Sign x3.P.Digits.l x3.Q.Digits.l) * (Fr.fq x4.P.Sign x4.P.Digits.l x4.Q.Digits.l)) : List Int) fun l7 hl7 => ?_
              have hl7n := congrArg List.length hl7
              refine nm (Fr.rT (Fr.FrB x3.P.Sign x3.P.Digits.l x3.Q.Sign x3.Q.Digits.l ∧ Fr.FrB x4.P.Sign x4.P.Digits.l x4.Q.Sign x4.Q.Digits.l) : Int) fun n12 hn12 => ?_
              refine nm (Fr.rE (Fr.FrB x3.P.Sign x3.P.Digits.l x3.Q.Sign x3.Q.Digits.l ∧ Fr.FrB x4.P.Sign x4.P.Digits.l x4.Q.Sign x4.Q.Digits.l) ((Fr.fq x3.P.Sign x3.P.Digits.l x3.Q.Digits.l) * (Fr.fq x4.P.Sign x4.P.Digits.l x4.Q.Digits.l)) : List Int) fun l8 hl8 => ?_
              have hl8n := congrArg List.length hl8
              refine nm (if ¬ (Fr.FrB x3.P.Sign x3.P.Digits.l x3.Q.Sign x3.Q.Digits.l ∧ Fr.FrB x4.P.Sign x4.P.Digits.l x4.Q.Sign x4.Q.Digits.l) then (1 : Int) else 0 : Int) fun n13 hn13 => ?_
              have hx3m := getD_mem (l := Fr.frs (Fr.shQ weights) ((G5 1).sl 0)) (k := n7.toNat) (by omega) hx3; have hx3r := hLr _ hx3m; have hx3l := hLb.2 _ hx3m; have hx31 := hx3l.1; have hx32 := hx3l.2
              have hx4m := getD_mem (l := weights) (k := i.toNat) (by omega) hx4; have hx4r := hWr _ hx4m; have hx4l := (Fr.few30_wb hF).2 _ hx4m; have hx41 := hx4l.1; have hx42 := hx4l.2
              have z2 := Fr.Fz.of ⟨hx3r, hx4r⟩ hn11 hl7 hn12 hl8
              have hpr := Fr.prop_is hE ((G5 1).sl 0) (i := i.toNat) (k := n7.toNat) (by omega) (by omega)
              rw [← hx1, ← hx2, ← hx3, ← hx4] at hpr
              have hsame := (Fr.Fz.iff z1 z2).2 hpr
              refine V.reg [.k (((G5 1).ss 0).v),
                .k (iv n7),
                .ix g0 (kf true (.f 1) (Fr.frs (Fr.shQ weights) ((G5 1).sl 0)) (fun _ => (G5 1).ss 0)) n7 (fun _ => ⟨by omega, by omega⟩),
                .le g0 (kf true (.f 1) (Fr.frs (Fr.shQ weights) ((G5 1).sl 0)) (fun _ => (G5 1).ss 0)) n7 none true x3 hx3 (fun _ => ⟨by omega, by omega⟩) true (fun _ => Dat.cells x3),
                .k (weightss.v),
                .k (iv i),
                .ix g0 (kf false (.f 0) weights (fun _ => weightss)) i (fun _ => ⟨by omega, by omega⟩),
                .le g0 (kf false (.f 0) weights (fun _ => weightss)) i none true x4 hx4 (fun _ => ⟨by omega, by omega⟩) true (fun _ => Dat.cells x4),
                .ct g0 8 11 false [] [] [(kx true (.g 3 0) x3 x3.P.Digits.l (fun _ => x3.P.Digits.s) (fun _ H (h : Dat.good H (x3 : DFrac)) => h.1)).a, (kx true (.g 3 0) x3 x3.Q.Digits.l (fun _ => x3.Q.Digits.s) (fun _ H (h : Dat.good H (x3 : DFrac)) => h.2)).a, (kx false (.g 7 0) x4 x4.P.Digits.l (fun _ => x4.P.Digits.s) (fun _ H (h : Dat.good H (x4 : DFrac)) => h.1)).a, (kx false (.g 7 0) x4 x4.Q.Digits.l (fun _ => x4.Q.Digits.s) (fun _ H (h : Dat.good H (x4 : DFrac)) => h.2)).a] (fun _ G => fmul_ctv x3.P.Sign x3.P.Digits.l x3.P.Digits.s x3.Q.Sign x3.Q.Digits.l x3.Q.Digits.s x4.P.Sign x4.P.Digits.l x4.P.Digits.s x4.Q.Sign x4.Q.Digits.l x4.Q.Digits.s (by omega) (by omega) (by omega) (by omega) n11 hn11 l7 hl7 n12 hn12 l8 hl8 n13 hn13),
                .v fun G => .tuple #[ag (DFrac.mk (DBig.mk n11 ⟨l7, (G 8).ss 0⟩) (DBig.mk n12 ⟨l8, (G 8).ss 1⟩)), iv n13],
                .v fun G => ag (DFrac.mk (DBig.mk n11 ⟨l7, (G 8).ss 0⟩) (DBig.mk n12 ⟨l8, (G 8).ss 1⟩)),
                .k (iv n13),
                .nb 12 2 (fun b => pp b 0) 33 (fun _ => ca (DFrac.mk (DBig.mk 0 ⟨[], {}⟩) (DBig.mk 0 ⟨[], {}⟩))),
                .st 2 (fun G => .blk ((G 12).b) (ca (DFrac.mk (DBig.mk n11 ⟨l7, (G 8).ss 0⟩) (DBig.mk n12 ⟨l8, (G 8).ss 1⟩))) 33),
                .k (iv n13)] (fun _ _ => by kernel_rfl) fun _ _ G16 kw17 => ?_
              intro S16 t16
              obtain ⟨⟨⟨kl19, -⟩, ⟨kl20, -⟩⟩, ⟨⟨kl21, -⟩, ⟨kl22, -⟩⟩, ⟨kl23, -⟩, ⟨kl24, -⟩, -⟩ : (Lq x3.P.Digits.l x3.P.Digits.s.v ∧ Lq x3.Q.Digits.l x3.Q.Digits.s.v) ∧ (Lq x4.P.Digits.l x4.P.Digits.s.v ∧ Lq x4.Q.Digits.l x4.Q.Digits.s.v) ∧ Lq l7 (((G16 8).ss 0).v) ∧ Lq l8 (((G16 8).ss 1).v) ∧ True := kn kw17 (by kernel_rfl)
              clear kw17
              refine V.go [.ld 1 0 true (fun _ => Dat.cells (DFrac.mk (DBig.mk n8 ⟨l5, (G15 8).ss 0⟩) (DBig.mk n9 ⟨l6, (G15 8).ss 1⟩))),
                .ld 2 0 true (fun _ => Dat.cells (DFrac.mk (DBig.mk n11 ⟨l7, (G16 8).ss 0⟩) (DBig.mk n12 ⟨l8, (G16 8).ss 1⟩))),
                .cp g0 2 21 [(kf true (.f 10) l5 (fun _ => (G15 8).ss 0)).a, (kf true (.f 11) l6 (fun _ => (G15 8).ss 1)).a, (kf true (.f 14) l7 (fun _ => (G16 8).ss 0)).a, (kf true (.f 15) l8 (fun _ => (G16 8).ss 1)).a] (fun _ G => fsame_ct n8 l5 ((G15 8).ss 0) n9 l6 ((G15 8).ss 1) n11 l7 ((G16 8).ss 0) n12 l8 ((G16 8).ss 1)),
                .k (bv (!(decide (n8 = n11 ∧ l5 = l7 ∧ n9 = n12 ∧ l6 = l8))))] (fun _ _ => by kernel_rfl) fun _ _ G17 => ?_
              intro S17 t17
              refine V.cond (b := !(decide (n8 = n11 ∧ l5 = l7 ∧ n9 = n12 ∧ l6 = l8))) (iNT iDF) (iNF iDT) (by kernel_rfl) (fun q11 => ?_) (fun q12 => ?_)
              · skip
                exfalso; exact q11 hsame
              · skip
                refine V.go [.k (iv i),
                  .a (i + 1) (by omega) (by omega),
                  .k (iv (i + 1))] (fun _ _ => by kernel_rfl) fun _ _ G18 => ?_
                intro S18 t18
                refine V.rnd hZ1 (i + 1, n4, l3, (G13 5).ss 0, n5, l4, (G13 5).ss 1) [0, 1, 6, 7] (by kernel_rfl) ?_ ?_
                · skip
                  refine ⟨?_, ?_, ?_, ?_, ?_⟩
                  · show 0 ≤ (i + 1)
                    omega
                  · show (i + 1) ≤ ((Fr.frs (Fr.shQ weights) ((G5 1).sl 0)).length : Int)
                    omega
                  · show 0 ≤ (i + 1)
                    omega
                  · show (i + 1) ≤ (weights.length : Int)
                    omega
                  · show Fr.Fz n4 l3 n5 l4 (Fr.sumQ (((Fr.frs (Fr.shQ weights) ((G5 1).sl 0)).take (i + 1).toNat).map Fr.qv))
                    have hz := zs
                    rw [show (i + 1).toNat = i.toNat + 1 by omega, Fr.sumQ_step (by omega) hx1]; exact hz
                · show ((weights.length : Int) - (i + 1)).toNat < ((weights.length : Int) - i).toNat
                  omega
          · skip
            refine nm (Bg.sgn (1 : Int) : Int) fun n14 hn14 => ?_
            refine nm (Bg.dig (1 : Int).natAbs : List Int) fun l9 hl9 => ?_
            have hl9n := congrArg List.length hl9
            refine nm (Bg.dig 1 : List Int) fun l10 hl10 => ?_
            have hl10n := congrArg List.length hl10
            have zo : Fr.Fz n14 l9 1 l10 ((1 : Int) : Rat) := by subst_vars; exact Fr.intz 1
            have hsu := hf5
            rw [show i.toNat = (Fr.frs (Fr.shQ weights) ((G5 1).sl 0)).length by omega, List.take_length, Fr.frs_qv, Fr.shQ_sum hE] at hsu
            have hsm1 := Fr.Fz.inj hsu zo
            refine V.reg [.ld 0 0 true (fun _ => Dat.cells (DFrac.mk (DBig.mk sum_0 ⟨sum_1, sum_1s⟩) (DBig.mk sum_2 ⟨sum_3, sum_3s⟩))),
              .ct g0 1 18 false [] [] [] (fun _ G => fint_ctv (1 : Int) (by omega) n14 hn14 l9 hl9 l10 hl10),
              .cp g0 2 21 [(kf true (.f 2) sum_1 (fun _ => sum_1s)).a, (kf true (.f 3) sum_3 (fun _ => sum_3s)).a, (kf true (.g 1 0) l9 (fun G => (G 1).ss 0)).a, (kf true (.g 1 1) l10 (fun G => (G 1).ss 1)).a] (fun _ G => fsame_ct sum_0 sum_1 sum_1s sum_2 sum_3 sum_3s n14 l9 ((G 1).ss 0) (1 : Int) l10 ((G 1).ss 1)),
              .k (bv (!(decide (sum_0 = n14 ∧ sum_1 = l9 ∧ sum_2 = (1 : Int) ∧ sum_3 = l10))))] (fun _ _ => by kernel_rfl) fun _ _ G19 kw20 => ?_
            intro S19 t19
            obtain ⟨⟨kl25, -⟩, ⟨kl26, -⟩, -⟩ : Lq l9 (((G19 1).ss 0).v) ∧ Lq l10 (((G19 1).ss 1).v) ∧ True := kn kw20 (by kernel_rfl)
            clear kw20
            refine V.cond (b := !(decide (sum_0 = n14 ∧ sum_1 = l9 ∧ sum_2 = (1 : Int) ∧ sum_3 = l10))) (iNT iDF) (iNF iDT) (by kernel_rfl) (fun q13 => ?_) (fun q14 => ?_)
            · skip
              exfalso; exact q13 hsm1
            · skip
              refine nm (Fr.rndL total (Fr.frs (Fr.shQ weights) ((G5 1).sl 0)) : List Int) fun l11 hl11 => ?_
              have hl11n := congrArg List.length hl11
              refine nm (if Fr.rndOk total (Fr.frs (Fr.shQ weights) ((G5 1).sl 0)) then (0 : Int) else 1 : Int) fun n15 hn15 => ?_
              refine V.reg [.k (iv total),
                .k (((G5 1).ss 0).v),
                .ct g0 2 15 false [] [] [(kf true (.f 1) (Fr.frs (Fr.shQ weights) ((G5 1).sl 0)) (fun _ => (G5 1).ss 0)).a] (fun _ G => round_ctv total (Fr.frs (Fr.shQ weights) ((G5 1).sl 0)) ((G5 1).ss 0) hLb (by omega) l11 hl11 n15 hn15),
                .v fun G => .tuple #[((G 2).ss 0).v, iv n15],
                .v fun G => ((G 2).ss 0).v,
                .k (iv n15),
                .v fun G => ((G 2).ss 0).v,
                .k (iv n15)] (fun _ _ => by kernel_rfl) fun _ _ G20 kw21 => ?_
              intro S20 t20
              obtain ⟨⟨kl27, -⟩, -⟩ : Lq l11 (((G20 2).ss 0).v) ∧ True := kn kw21 (by kernel_rfl)
              clear kw21
              refine nm ((decide (total < 0)) || (decide (1099511627776 < total)) : Bool) fun p2 hp2 => ?_
              refine V.go [.k (iv total),
                .k (bv (decide (total < 0))),
                .k (bv (decide (total < 0))),
                .k (iv total),
                .k (bv (decide (1099511627776 < total))),
                .orn g0 false (decide (total < 0)) (decide (1099511627776 < total)) p2 hp2] (fun _ _ => by kernel_rfl) fun _ _ G21 => ?_
              intro S21 t21
              refine V.cond (b := p2) (iN hp2 (iOT iDT iDT)) (iN hp2 (iOF iDF iDF)) (by kernel_rfl) (fun q15 => ?_) (fun q16 => ?_)
              · skip
                refine nm ((decide (n15 = 1)) && (decide ((l11.length : Int) = 0)) : Bool) fun p3 hp3 => ?_
                refine V.go [.kb true,
                  .kb true,
                  .k (iv n15),
                  .k (bv (decide (n15 = 1))),
                  .k (bv (decide (n15 = 1))),
                  .k (bv (decide (n15 = 1))),
                  .k (((G20 2).ss 0).v),
                  .ln (kf true (.f 6) l11 (fun _ => (G20 2).ss 0)),
                  .k (bv (decide ((l11.length : Int) = 0))),
                  .andn g0 false (decide (n15 = 1)) (decide ((l11.length : Int) = 0)) p3 hp3,
                  .k (bv p3)] (fun _ _ => by kernel_rfl) fun _ _ G22 => ?_
                intro S22 t22
                have e0 : p3 = true := by
                  refine (iN hp3 (iAT iDT iDT)).2 ?_
                  have hNo : ¬ Fr.rndOk total (Fr.frs (Fr.shQ weights) ((G5 1).sl 0)) := fun h => by have := h.1; have hqq := q15; omega
                  refine ⟨by rw [hn15]; exact if_neg hNo, by rw [hl11, Fr.rndL_n hNo]; rfl⟩
                exact V.ret [0] [] [] [] [] [] (bv p3) (fun _ _ => by kernel_rfl) (fun _ _ => (Eq.trans (by kernel_rfl) (cong1 (fun (x0 : Bool) => (bv x0 : Value)) e0)).trans (by kernel_rfl)) (fun _ _ => trivial)
              · skip
                have hOk := Fr.shQ_ok hE (σ := (G5 1).sl 0) (t := total) (by have hqq := q16; omega)
                have hWP : Fr.WholeP total l11 (Fr.frs (Fr.shQ weights) ((G5 1).sl 0)) := by rw [hl11]; exact Fr.whole_of hLb hOk
                refine V.go [.kb true,
                  .kb true,
                  .k (iv n15),
                  .k (bv (decide (n15 = 0))),
                  .k (bv (decide (n15 = 0))),
                  .k (bv (decide (n15 = 0))),
                  .k (iv total),
                  .k (((G20 2).ss 0).v),
                  .k (((G5 1).ss 0).v),
                  .cp (gT (b := decide (n15 = 0)) iDT) 9 16 [(kf true (.f 6) l11 (fun _ => (G20 2).ss 0)).a, (kf true (.f 1) (Fr.frs (Fr.shQ weights) ((G5 1).sl 0)) (fun _ => (G5 1).ss 0)).a] (fun hg G => whole_ct total l11 ((G20 2).ss 0) (Fr.frs (Fr.shQ weights) ((G5 1).sl 0)) ((G5 1).ss 0) (by assumption)),
                  .and g0 false (decide (n15 = 0)) true,
                  .k (bv ((decide (n15 = 0)) && true))] (fun _ _ => by kernel_rfl) fun _ _ G23 => ?_
                intro S23 t23
                have e0 : ((decide (n15 = 0)) && true) = true := by
                  refine (iAT iDT iTT).2 ?_
                  exact ⟨by rw [hn15]; exact if_pos hOk, trivial⟩
                exact V.ret [0] [] [] [] [] [] (bv ((decide (n15 = 0)) && true)) (fun _ _ => by kernel_rfl) (fun _ _ => (Eq.trans (by kernel_rfl) (cong1 (fun (x0 : Bool) => (bv x0 : Value)) e0)).trans (by kernel_rfl)) (fun _ _ => trivial)

end Kb
set_option linter.unusedVariables false
set_option linter.unusedSectionVars false
set_option linter.unusedSimpArgs false
namespace Kb
open Go Go.RowKit Go.WideShapes Go.ChangeShapes
theorem wf64 {a : Int} (h : (Lit.int .i64 a).wf = true) : -9223372036854775808 ≤ a ∧ a ≤ 9223372036854775807 := by
  simp [Lit.wf, IntKind.min, IntKind.max, IntKind.signed, IntKind.bits] at h
  omega
theorem wf8 {a : Int} (h : (Lit.int .u8 a).wf = true) : 0 ≤ a ∧ a ≤ 255 := by
  simp [Lit.wf, IntKind.min, IntKind.max, IntKind.signed, IntKind.bits] at h
  omega
theorem wf16 {a : Int} (h : (Lit.int .u16 a).wf = true) : 0 ≤ a ∧ a ≤ 65535 := by
  simp [Lit.wf, IntKind.min, IntKind.max, IntKind.signed, IntKind.bits] at h
  omega
theorem wfi8 {a : Int} (h : (Lit.int .i8 a).wf = true) : -128 ≤ a ∧ a ≤ 127 := by
  simp [Lit.wf, IntKind.min, IntKind.max, IntKind.signed, IntKind.bits] at h
  omega
section
variable {H : Type} {enc : TypeId × Value → H} {P : Program}
/-- the row's last step, where the call has left every block that was there as it was -/
theorem law_post {f : Func} {s : ChangeSpec} {apart fresh handsOn again : Bool} {W W' : World} {args : Array Value} {v : Value} {ds gs : List (DataW H)} {before pa pv : List MemPlace}
    (hW : DataW.Whole enc P f.params.toList s.vars apart W args.toList ds gs before)
    (hres : ∀ (b : Nat) (sp : Nat → Bool) (hd : Bool), DataW.TrodAll enc P W' b sp hd f.resultTypes.toList (v.resultList f.resultTypes.size) (s.fn H (ds ++ gs)).results [])
    (hargs : ∀ sp : Nat → Bool, (∀ p ∈ before, sp p.block = true) → DataW.TrodAll enc P W' 0 sp true f.params.toList args.toList (s.fn H (ds ++ gs)).args pa)
    (hvars : ∀ sp : Nat → Bool, (∀ p ∈ before, sp p.block = true) → DataW.TrodVars enc P W' sp s.vars (s.fn H (ds ++ gs)).vars pv)
    (hps : before = pa ++ pv) (hb : Base [] W W')
    (hok : ∀ (j : Nat) (t : TypeId) (r : Value), f.resultTypes[j]? = some t → (v.resultList f.resultTypes.size)[j]? = some r → Value.okWide P W' .any 0 t r) :
    s.post enc P f apart fresh handsOn again W args v W' := by
  have low : ∀ p ∈ before, p.block < W.heap.size := fun p hp => hW.lt p hp
  have mark : ∀ p ∈ before, (fun b => decide (b < W.heap.size)) p.block = true := fun p hp => decide_eq_true (low p hp)
  have back := hb.below
  refine ⟨ds, gs, before, [], pa, pv, hW, hres _ _ _, hargs _ mark, hvars _ mark, World.keptBut_mono (fun p hp => ⟨hp, by rw [hps, List.mem_append] at hp; exact Or.inr hp⟩) (back.frame (· ∈ before)), fun _ => ?_⟩
  obtain ⟨_, _, _, _, _, hz, hn⟩ := hW
  refine ⟨hok, _, _, ([] ++ pa) ++ pv, ⟨[] ++ pa, pv, trodAll_append (hargs _ fun _ _ => rfl) (hres _ _ _), hvars _ fun _ _ => rfl, rfl, fun b off hp => ?_, fun ha => ?_⟩, fun p hp _ => ?_⟩
  · have hin : MemPlace.cell b off ∈ before := by rw [hps]; simpa using hp
    rw [back.frozen (low _ hin)]
    exact hz b off hin
  · have := hn ha
    rw [hps] at this; simpa using this
  · rw [hps]; simpa using hp
end
end Kb
set_option linter.unusedVariables false
set_option linter.unusedSectionVars false
set_option linter.unusedSimpArgs false
namespace Kb
open Go Go.RowKit Go.WideShapes Go.ChangeShapes
theorem whole_agrees (w : World) : Agrees w (whole w) := fun _ _ h => h
theorem hcells_of {w : World} {a : Addr} {vs : List Value} (h0 : vs ≠ []) (h : ∀ (j : Nat) (v : Value), vs[j]? = some v → w.cell? (a.add j) = some v) : HCells (whole w) a vs := by
  obtain ⟨v0, vs', rfl⟩ := List.exists_cons_of_ne_nil h0
  have h1 := h 0 v0 rfl
  have e0 : a.add 0 = a := by simp [Addr.add]
  rw [e0] at h1
  have hs := World.cell?_spot h1
  unfold World.cell? at h1
  split at h1
  · rename_i c T fr hb
    refine ⟨hs, c, T, fr, hb, fun j v hj => ?_⟩
    have h2 := h j v hj
    rw [add_eq hs] at h2
    simpa [World.cell?, hb] using h2
  · cases h1
/-- how a type's cells open -/
structure Opens (P : Program) (w : World) (e : TypeId) (α : Type) [Dat α] : Prop where
  cells : P.cellsOf e = Dat.size α
  full : 0 < Dat.size α
  data : ∀ {H : Type} {enc : TypeId × Value → H} {base : Nat} {sp : Nat → Bool} {held : Bool} {n : Nat} {cs : List Value} {x : DataW H × List MemPlace}, DataW.trod enc P w base sp held n e cs = some x → ∃ y : α, cs = Dat.cells y ∧ Dat.good (whole w) y
section
variable {H : Type} {enc : TypeId × Value → H} {P : Program} {w : World} {base : Nat} {sp : Nat → Bool} {held : Bool}
theorem cells_get {a : Addr} {n : Nat} {cs : List Value} (h : w.cells? base a n = some cs) : ∀ (j : Nat) (v : Value), cs[j]? = some v → w.cell? (a.add j) = some v := by
  intro j v hj
  unfold World.cells? at h
  split at h
  · have hl := mapM_some_length h
    have hlt := (List.getElem?_eq_some_iff.1 hj).1
    rw [hl, List.length_range] at hlt
    have := mapM_some_get h j j (by simp [hlt])
    rw [this, hj]
  · cases h
theorem opens_slice {α : Type} [Dat α] {t e : TypeId} (ht : P.underlying t = some (.slice e)) (o : Opens P w e α) {fuel : Nat} {cs : List Value} {x : DataW H × List MemPlace} (h : DataW.trod enc P w base sp held fuel t cs = some x) :
    ∃ (l : List α) (s : SV), cs = [s.v] ∧ RSl (whole w) l s.v := by
  rcases DataW.trod_slice ht h with ⟨rfl, _⟩ | ⟨a, len, cap, elems, rest, n, _, rfl, _, _, hl, hm, hlen, hel, _⟩
  · exact ⟨[], {}, rfl, RSl.nil⟩
  · have each : ∀ i, i < len → ∃ y : α, w.cells? base (a.add (i * Dat.size α)) (Dat.size α) = some (Dat.cells y) ∧ Dat.good (whole w) y := fun i hi => by
      have h1 := hel i hi
      rw [o.cells, List.getElem?_eq_getElem (by omega), Option.bind_eq_some_iff] at h1
      obtain ⟨cs', h2, h3⟩ := h1
      obtain ⟨y, rfl, hg⟩ := o.data h3
      exact ⟨y, h2, hg⟩
    have ⟨f, hf⟩ : ∃ f : Nat → α, ∀ i, i < len → w.cells? base (a.add (i * Dat.size α)) (Dat.size α) = some (Dat.cells (f i)) ∧ Dat.good (whole w) (f i) :=
      ⟨fun i => if hi : i < len then Classical.choose (each i hi) else default, fun i hi => by simp only [dif_pos hi]; exact Classical.choose_spec (each i hi)⟩
    refine ⟨(List.range len).map f, ⟨some a, len, cap⟩, rfl, ⟨⟨?_, ?_, some a, cap, ?_, ?_, hm, ?_, ?_⟩, ?_⟩⟩
    · intro r hr; simp [rows] at hr; obtain ⟨i, _, rfl⟩ := hr; exact Dat.len _
    · intro r hr; simp [rows] at hr; obtain ⟨i, hi, rfl⟩ := hr; exact Dat.one _ _ (hf i hi).2
    · simp [SV.v]
    · simpa using hl
    · intro h; cases h
    · intro b hb hne
      cases hb
      have hrl : ∀ r ∈ rows ((List.range len).map f), r.length = Dat.size α := by intro r hr; simp [rows] at hr; obtain ⟨i, _, rfl⟩ := hr; exact Dat.len _
      have h0 : 0 < len := by
        rcases Nat.eq_zero_or_pos len with h | h
        · subst h; simp [rows] at hne
        · exact h
      have hfl := flatten_len hrl
      simp only [rows_length, List.length_map, List.length_range] at hfl
      have hsz := o.full
      have hspot : a.spot = none := by
        have h1 := cells_get (hf 0 h0).1
        have h2 : (Dat.cells (f 0)).length = Dat.size α := Dat.len _
        have h3 := h1 0 _ (List.getElem?_eq_getElem (by omega))
        have := World.cell?_spot h3
        simpa [Addr.add] using this
      refine hcells_of (fun e => ?_) fun j v hj => ?_
      · rw [e] at hfl
        have := Nat.mul_pos h0 hsz
        simp at hfl; omega
      · have hj2 := (List.getElem?_eq_some_iff.1 hj).1
        rw [hfl] at hj2
        have hk : j / Dat.size α < len := Nat.div_lt_of_lt_mul (by rwa [Nat.mul_comm])
        have hr : j % Dat.size α < Dat.size α := Nat.mod_lt _ hsz
        have h2 : (Dat.cells (f (j / Dat.size α))).length = Dat.size α := Dat.len _
        have e1 : (rows ((List.range len).map f))[j / Dat.size α]? = some (Dat.cells (f (j / Dat.size α))) := by simp [rows, hk]
        have e2 := List.getElem?_eq_getElem (l := Dat.cells (f (j / Dat.size α))) (i := j % Dat.size α) (by omega)
        have e3 := flatten_get hrl _ _ _ _ e1 e2
        have ej : j / Dat.size α * Dat.size α + j % Dat.size α = j := by rw [Nat.mul_comm]; exact Nat.div_add_mod j _
        rw [ej, hj] at e3
        have h4 := cells_get (hf _ hk).1 _ _ e2
        rw [← Option.some.inj e3] at h4
        rw [← h4, add_eq hspot, add_eq (a := a.add _) (by rw [add_eq hspot]), add_eq hspot]
        simp only [Nat.add_assoc, ej]
    · intro y hy; simp at hy; obtain ⟨i, hi, rfl⟩ := hy; exact (hf i hi).2
/-- a field of a struct's cells -/
theorem Opens.field {α : Type} [Dat α] {t : TypeId} {fs : Array Field} (ht : P.underlying t = some (.struct fs)) {fuel : Nat} {cs : List Value} {x : DataW H × List MemPlace} (h : DataW.trod enc P w base sp held fuel t cs = some x)
    (i : Nat) {f : Field} (hi : fs[i]? = some f) (o : Opens P w f.type α) : ∃ y : α, (cs.drop f.offset).take (Dat.size α) = Dat.cells y ∧ Dat.good (whole w) y := by
  obtain ⟨xs, n, _, _, _, hx, hf⟩ := DataW.trod_struct ht h
  have h1 := hf i f hi
  have hlt := (Array.getElem?_eq_some_iff.1 hi).1
  rw [List.getElem?_eq_getElem (by omega), o.cells] at h1
  exact o.data h1
/-- a field that is a slice -/
theorem field_slice {α : Type} [Dat α] {t e : TypeId} {fs : Array Field} (ht : P.underlying t = some (.struct fs)) {fuel : Nat} {cs : List Value} {x : DataW H × List MemPlace} (h : DataW.trod enc P w base sp held fuel t cs = some x)
    (i : Nat) {f : Field} (hi : fs[i]? = some f) (hs : P.underlying f.type = some (.slice e)) (hc : P.cellsOf f.type = 1) (o : Opens P w e α) : ∃ (l : List α) (s : SV), (cs.drop f.offset).take 1 = [s.v] ∧ RSl (whole w) l s.v := by
  obtain ⟨xs, n, _, _, _, hx, hf⟩ := DataW.trod_struct ht h
  have h1 := hf i f hi
  have hlt := (Array.getElem?_eq_some_iff.1 hi).1
  rw [List.getElem?_eq_getElem (by omega), hc] at h1
  exact opens_slice hs o h1
theorem struct_len {t : TypeId} {fs : Array Field} (ht : P.underlying t = some (.struct fs)) {fuel : Nat} {cs : List Value} {x : DataW H × List MemPlace} (h : DataW.trod enc P w base sp held fuel t cs = some x) : cs.length = P.cellsOf t := by
  obtain ⟨xs, n, _, _, hl, _⟩ := DataW.trod_struct ht h
  exact hl
/-- an argument that is a slice -/
theorem arg_slice {α : Type} [Dat α] {r : Reach} {b0 : Nat} {t e : TypeId} (ht : P.underlying t = some (.slice e)) (o : Opens P w e α) {v : Value} {d : DataW H} {ps : List MemPlace} (hv : Value.okWide P w r b0 t v) (h : DataW.Trod enc P w base sp held t v d ps) :
    ∃ (l : List α) (s : SV), v = s.v ∧ RSl (whole w) l s.v := by
  obtain ⟨n, hn⟩ := h
  obtain ⟨a, len, cap, rfl⟩ := okWide_slice ht hv
  obtain ⟨l, u, h1, h2⟩ := opens_slice ht o hn
  exact ⟨l, u, by injection h1, h2⟩
theorem arg_int {r : Reach} {b0 : Nat} {t : TypeId} {k : IntKind} (ht : P.underlying t = some (.int k)) {v : Value} {d : DataW H} {ps : List MemPlace} (hv : Value.okWide P w r b0 t v) (h : DataW.Trod enc P w base sp held t v d ps) : ∃ n, v = .int k n ∧ (Lit.int k n).wf = true := by
  obtain ⟨n, hn⟩ := h
  obtain ⟨m, rfl⟩ := okWide_int ht hv
  obtain ⟨n, h1, _, h2⟩ := DataW.trod_int ht hn
  cases h1
  exact ⟨_, rfl, h2⟩
theorem arg_string {r : Reach} {b0 : Nat} {t : TypeId} (ht : P.underlying t = some .string) {v : Value} {d : DataW H} {ps : List MemPlace} (hv : Value.okWide P w r b0 t v) (h : DataW.Trod enc P w base sp held t v d ps) : ∃ s, v = .string s ∧ s.size ≤ maxLen := by
  obtain ⟨n, hn⟩ := h
  obtain ⟨m, rfl⟩ := okWide_string ht hv
  obtain ⟨n, h1, _, h2⟩ := DataW.trod_string ht hn
  cases h1
  exact ⟨_, rfl, h2⟩
/-- an argument that is a struct of one slice -/
theorem arg_box {α : Type} [Dat α] {r : Reach} {b0 : Nat} {t e : TypeId} {fs : Array Field} {f : Field} (ht : P.underlying t = some (.struct fs)) (h1c : P.cellsOf t = 1) (hi : fs[0]? = some f) (h0 : f.offset = 0) (hs : P.underlying f.type = some (.slice e)) (hc : P.cellsOf f.type = 1) (o : Opens P w e α)
    {v : Value} {d : DataW H} {ps : List MemPlace} (hv : Value.okWide P w r b0 t v) (h : DataW.Trod enc P w base sp held t v d ps) :
    ∃ (l : List α) (u : SV), v = .agg #[u.v] ∧ RSl (whole w) l u.v := by
  obtain ⟨n, hn⟩ := h
  obtain ⟨cs, rfl, hl⟩ := okWide_struct ht hv
  obtain ⟨l, u, h1, h2⟩ := field_slice ht hn 0 hi hs hc o
  rw [h1c] at hl
  refine ⟨l, u, ?_, h2⟩
  rw [h0] at h1
  cases cs with
  | mk cs =>
    simp at hl
    obtain ⟨c, rfl⟩ := List.length_eq_one_iff.1 hl
    simp [Value.cells] at h1
    rw [h1]
/-- an argument that is an array of ints -/
theorem arg_array {r : Reach} {b0 : Nat} {t e : TypeId} {m : Nat} (ht : P.underlying t = some (.array m e)) (he : P.underlying e = some (.int .i64)) (hc : P.cellsOf t = m) (h1 : P.cellsOf e = 1) {v : Value} {d : DataW H} {ps : List MemPlace} (hv : Value.okWide P w r b0 t v) (h : DataW.Trod enc P w base sp held t v d ps) :
    ∃ l : List Int, l.length = m ∧ v = .agg ⟨l.map fun n => .int .i64 n⟩ := by
  obtain ⟨n, hn⟩ := h
  simp only [Value.okWide, ht] at hv
  obtain ⟨cs, rfl, hl, _⟩ := hv
  obtain ⟨xs, k, _, _, _, hx, hel⟩ := DataW.trod_array ht hn
  simp only [Value.cells, h1, Nat.mul_one] at hel
  rw [hc] at hl
  have each : ∀ i, i < m → ∃ n : Int, cs.toList[i]? = some (.int .i64 n) := fun i hi => by
    have h2 := hel i hi
    have hi' : i < cs.toList.length := by simpa [hl] using hi
    rw [List.getElem?_eq_getElem (by omega), List.drop_eq_getElem_cons hi'] at h2
    obtain ⟨n, h3, _, _⟩ := DataW.trod_int he h2
    simp at h3
    exact ⟨n, by rw [List.getElem?_eq_getElem hi']; simp [h3]⟩
  refine ⟨(List.range m).map fun i => match cs.toList[i]? with | some (Value.int .i64 n) => n | _ => 0, by simp, ?_⟩
  congr 1
  cases cs with
  | mk cs =>
    congr 1
    refine List.ext_getElem? fun i => ?_
    rcases Nat.lt_or_ge i m with hi | hi
    · obtain ⟨n, hn⟩ := each i hi
      simp only at hn
      simp [hi, hn]
    · have hl' : cs.length = m := by simpa using hl
      rw [List.getElem?_eq_none (by omega), List.getElem?_eq_none (by simp; omega)]
/-- arguments read as they did, where old memory has stayed -/
theorem keep_all (hl : laidOutB P = true) {W W' : World} (hb : Below W.heap.size W W') : ∀ {ts : List TypeId} {vs : List Value} {ds : List (DataW H)} {ps : List MemPlace}, (ts.all fun t => P.readableRec t && decide (t < P.types.size)) = true →
    DataW.TrodAll enc P W 0 (fun _ => true) true ts vs ds ps → (∀ x ∈ ps, x.block < W.heap.size) → ∀ sp' : Nat → Bool, (∀ x ∈ ps, sp' x.block = true) → DataW.TrodAll enc P W' 0 sp' true ts vs ds ps
  | [], [], [], _, _, h, _, _, _ => h
  | t :: ts, _ :: _, _ :: _, _, ht, ⟨p, q, h1, h2, e⟩, hlt, sp', hs => by
    simp only [List.all_cons, Bool.and_eq_true, decide_eq_true_eq] at ht
    refine ⟨p, q, WideElems.Trod_stays hl ht.1.1 ht.1.2 h1 (fun x hx => hb.same (hlt x (by rw [e]; exact List.mem_append_left _ hx))) (fun x hx => hs x (by rw [e]; exact List.mem_append_left _ hx)), keep_all hl hb (by simpa using ht.2) h2 (fun x hx => hlt x (by rw [e]; exact List.mem_append_right _ hx)) sp' (fun x hx => hs x (by rw [e]; exact List.mem_append_right _ hx)), e⟩
theorem opens_u8 {k : TypeId} (ht : P.underlying k = some (.int .u8)) (hc : P.cellsOf k = 1) : Opens P w k UInt8 :=
  ⟨hc, by decide, fun h => by
    obtain ⟨n, rfl, _, hw⟩ := DataW.trod_int ht h
    have : 0 ≤ n ∧ n < 256 := by simp [Lit.wf, IntKind.min, IntKind.max, IntKind.signed, IntKind.bits] at hw; omega
    exact ⟨UInt8.ofNat n.toNat, by
      show _ = [Value.int .u8 _]
      rw [UInt8.toNat_ofNat']
      congr 2
      omega, trivial⟩⟩
theorem opens_fat {α : Type} [Dat α] {k e : TypeId} (ht : P.underlying k = some (.slice e)) (hc : P.cellsOf k = 1) (o : Opens P w e α) : Opens P w k (Fat α) :=
  ⟨hc, by show 0 < 1; decide, fun h => by
    obtain ⟨l, s, rfl, hr⟩ := opens_slice ht o h
    exact ⟨⟨l, s⟩, rfl, hr⟩⟩
/-- a law's call: nothing is handed over, everything may be read -/
theorem Cp.law {P : Program} {f : FuncId} {args : Array Value} {F : List FP} {v : Value} (h : Cp P f args F v) (W : World) (hF : conjL (F.map fun q => q.p (whole W))) : Calls P f args W fun e w' => e = .returned v ∧ Base [] W w' := by
  refine (h W (whole W) (fun _ => none) (whole_agrees W) (fun q hq => conjL_mem hF _ (List.mem_map_of_mem hq)) ⟨Base.refl _ _, fun K hK => ?_, fun k b o hk => ?_, fun k l b o o' hk _ => ?_⟩ fun r x hx => ?_).mono ?_
  · have : K = whole W := by simpa using hK
    subst this; exact whole_agrees W
  · simp [ents] at hk
  · simp [ents] at hk
  · simp at hx
  · rintro e w' ⟨g, C⟩
    exact ⟨C.ret, C.base⟩
theorem opens_int {k : TypeId} (ht : P.underlying k = some (.int .i64)) (hc : P.cellsOf k = 1) : Opens P w k Int :=
  ⟨hc, by decide, fun h => by obtain ⟨n, rfl, _, _⟩ := DataW.trod_int ht h; exact ⟨n, rfl, trivial⟩⟩
theorem opens_string {k : TypeId} (ht : P.underlying k = some .string) (hc : P.cellsOf k = 1) : Opens P w k ByteArray :=
  ⟨hc, by decide, fun h => by obtain ⟨s, rfl, _, _⟩ := DataW.trod_string ht h; exact ⟨s, rfl, trivial⟩⟩
end
end Kb
namespace Kb
open Go Go.Proofs
theorem opens_31 (w : World) : Opens Try.prog w 31 DBig := ⟨by kernel_rfl, by decide, fun {_ _ _ _ _ _ cs _} h => by
  have hl : cs.length = 2 := (struct_len Try.underlying31 h).trans (by kernel_rfl)
  obtain ⟨y0, e0, g0⟩ := Opens.field Try.underlying31 h 0 rfl (Kb.opens_int Try.underlying3 (by kernel_rfl))
  obtain ⟨y1, e1, g1⟩ := Opens.field Try.underlying31 h 1 rfl (Kb.opens_fat Try.underlying29 (by kernel_rfl) (Kb.opens_int Try.underlying3 (by kernel_rfl)))
  obtain ⟨c0, c1, rfl⟩ : ∃ c0 c1, cs = [c0, c1] := by
    rcases cs with _ | ⟨c0, _ | ⟨c1, _ | ⟨_, _⟩⟩⟩
    all_goals first | exact ⟨_, _, rfl⟩ | (simp at hl; done) | (simp at hl; omega)
  simp [Dat.cells, Dat.size] at e0 e1
  refine ⟨⟨y0, y1⟩, ?_, g1⟩
  simp [Dat.cells, e0, e1]⟩
theorem opens_33 (w : World) : Opens Try.prog w 33 DFrac := ⟨by kernel_rfl, by decide, fun {_ _ _ _ _ _ cs _} h => by
  have hl : cs.length = 4 := (struct_len Try.underlying33 h).trans (by kernel_rfl)
  obtain ⟨y0, e0, g0⟩ := Opens.field Try.underlying33 h 0 rfl (Kb.opens_31 w)
  obtain ⟨y1, e1, g1⟩ := Opens.field Try.underlying33 h 1 rfl (Kb.opens_31 w)
  obtain ⟨c0, c1, c2, c3, rfl⟩ : ∃ c0 c1 c2 c3, cs = [c0, c1, c2, c3] := by
    rcases cs with _ | ⟨c0, _ | ⟨c1, _ | ⟨c2, _ | ⟨c3, _ | ⟨_, _⟩⟩⟩⟩⟩
    all_goals first | exact ⟨_, _, _, _, rfl⟩ | (simp at hl; done) | (simp at hl; omega)
  simp [Dat.cells, Dat.size] at e0 e1
  refine ⟨⟨y0, y1⟩, ?_, ⟨g0, g1⟩⟩
  simp [Dat.cells, e0, e1]⟩
end Kb
