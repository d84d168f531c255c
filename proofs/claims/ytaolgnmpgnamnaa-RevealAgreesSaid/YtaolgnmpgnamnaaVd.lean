/- The contracts of reveal: forms. -/
import Derived.Test.YtaolgnmpgnamnaaVc
import Derived.Test.YtaolgnmpgnamnaaTw
set_option linter.unusedVariables false
set_option linter.unusedSimpArgs false
namespace Kb
open Go Go.Proofs
set_option maxRecDepth 10000 in
theorem form_ct (paths : List (Fat Int)) (pathss : SV) (seen : List (Fat DThing)) (seens : SV) :
    Cp Try.prog 63 #[pathss.v, seens.v] [fs true paths pathss, fs true seen seens] (bv (decide (Rv.Form (Rv.ls paths) (Rv.ls seen)))) := by
  refine V.fn mo Try.func63 87 3 (by kernel_rfl) fun w H ε k0 => ?_
  obtain ⟨⟨kl1, -⟩, ⟨kl2, -⟩, -⟩ : Lq paths pathss.v ∧ Lq seen seens.v ∧ True := kn k0 (by kernel_rfl)
  clear k0
  refine V.go [.k (bv false)] (fun _ _ => by kernel_rfl) fun _ _ G1 => ?_
  intro S1 t1
  refine nm ((decide ((paths.length : Int) = 0)) || (decide (64 < (paths.length : Int))) : Bool) fun p1 hp1 => ?_
  refine nm (p1 || (!(decide ((seen.length : Int) = (paths.length : Int)))) : Bool) fun p2 hp2 => ?_
  refine V.go [.k (pathss.v),
    .ln (kf false (.f 0) paths (fun _ => pathss)),
    .k (bv (decide ((paths.length : Int) = 0))),
    .k (bv (decide ((paths.length : Int) = 0))),
    .k (pathss.v),
    .ln (kf false (.f 0) paths (fun _ => pathss)),
    .k (bv (decide (64 < (paths.length : Int)))),
    .orn g0 false (decide ((paths.length : Int) = 0)) (decide (64 < (paths.length : Int))) p1 hp1,
    .k (bv p1),
    .k (seens.v),
    .ln (kf false (.f 1) seen (fun _ => seens)),
    .k (pathss.v),
    .ln (kf false (.f 0) paths (fun _ => pathss)),
    .k (bv (!(decide ((seen.length : Int) = (paths.length : Int))))),
    .orn g0 false p1 (!(decide ((seen.length : Int) = (paths.length : Int)))) p2 hp2] (fun _ _ => by kernel_rfl) fun _ _ G2 => ?_
  intro S2 t2
  refine V.cond (b := p2) (iN hp2 (iOT (iN hp1 (iOT iDT iDT)) (iNT iDF))) (iN hp2 (iOF (iN hp1 (iOF iDF iDF)) (iNF iDT))) (by kernel_rfl) (fun q1 => ?_) (fun q2 => ?_)
  · skip
    refine V.go [.k (bv false)] (fun _ _ => by kernel_rfl) fun _ _ G3 => ?_
    intro S3 t3
    have e0 : false = decide (Rv.Form (Rv.ls paths) (Rv.ls seen)) := by
      symm; rw [decide_eq_false_iff_not]
      rintro ⟨h1, h2, h3, _⟩; rw [Rv.ls_length] at h1 h2; rw [Rv.ls_length, Rv.ls_length] at h3; omega
    exact V.ret [0] [] [] [] [] [] (bv false) (fun _ _ => by kernel_rfl) (fun _ _ => (Eq.trans (by kernel_rfl) (cong1 (fun (x0 : Bool) => (bv x0 : Value)) e0)).trans (by kernel_rfl)) (fun _ _ => trivial)
  · skip
    refine V.go [.mm Int Bool 0 0 false,
      .v fun G => .map (some ((G 0).b))] (fun _ _ => by kernel_rfl) fun _ _ G4 => ?_
    intro S4 t4
    refine V.go [.k (pathss.v),
      .ln (kf false (.f 0) paths (fun _ => pathss)),
      .k (iv 0)] (fun _ _ => by kernel_rfl) fun _ _ G5 => ?_
    intro S5 t5
    refine V.loop (γ := Int × List (Int × Bool)) (fun ⟨k0, m0⟩ => ⟨[(0, pathss.v), (1, seens.v), (5, .map (some ((G4 0).b))), (26, pathss.v), (27, iv (paths.length : Int)), (28, iv k0)], [fs false paths pathss, fs false seen seens], [mp true false m0 ((G4 0).b), .no, .no]⟩) (fun ⟨k0, m0⟩ => (0 ≤ k0) ∧ (k0 ≤ (paths.length : Int)) ∧ (∀ i, i < k0.toNat → Rv.row (Rv.ls paths) (Rv.ls seen) i) ∧ (m0 = Rv.endm ((Rv.ls paths).take k0.toNat))) (fun ⟨k0, m0⟩ => ((paths.length : Int) - k0).toNat) (0, ([] : List (Int × Bool))) (by kernel_rfl) [0, 1] (by kernel_rfl) ?_ ?_
    · skip
      refine ⟨?_, ?_, ?_, ?_⟩
      · show 0 ≤ (0 : Int)
        first | omega | rfl | (simp; done) | (subst_vars; simp; done)
      · show (0 : Int) ≤ (paths.length : Int)
        first | omega | rfl | (simp; done) | (subst_vars; simp; done)
      · show ∀ i, i < (0 : Int).toNat → Rv.row (Rv.ls paths) (Rv.ls seen) i
        intro i hi; simp at hi
      · show ([] : List (Int × Bool)) = Rv.endm ((Rv.ls paths).take (0 : Int).toNat)
        first | omega | rfl | (simp; done) | (subst_vars; simp; done)
    · rintro ⟨k0, m0⟩ hF1 kw6 Z1 hZ1
      have hF1 : (0 ≤ k0) ∧ (k0 ≤ (paths.length : Int)) ∧ (∀ i, i < k0.toNat → Rv.row (Rv.ls paths) (Rv.ls seen) i) ∧ (m0 = Rv.endm ((Rv.ls paths).take k0.toNat)) := hF1
      obtain ⟨hf1, hf2, hf3, hf4⟩ := hF1
      clear kw6
      refine V.go [.k (bv (decide (k0 < (paths.length : Int))))] (fun _ _ => by kernel_rfl) fun _ _ G6 => ?_
      intro S6 t6
      refine V.cond (b := decide (k0 < (paths.length : Int))) iDT iDF (by kernel_rfl) (fun q3 => ?_) (fun q4 => ?_)
      · skip
        refine nm (paths.getD k0.toNat default : Fat Int) fun x1 hx1 => ?_
        refine V.reg [.k (iv k0),
          .ix g0 (kf false (.f 0) paths (fun _ => pathss)) k0 (fun _ => ⟨by omega, by omega⟩),
          .le g0 (kf false (.f 0) paths (fun _ => pathss)) k0 none true x1 hx1 (fun _ => ⟨by omega, by omega⟩) false (fun _ => [x1.s.v]),
          .k (iv k0),
          .k (x1.s.v)] (fun _ _ => by kernel_rfl) fun _ _ G7 kw8 => ?_
        intro S7 t7
        obtain ⟨⟨kl3, -⟩, -⟩ : Lq x1.l x1.s.v ∧ True ∧ True := kn kw8 (by kernel_rfl)
        clear kw8
        refine nm (seen.getD k0.toNat default : Fat DThing) fun x2 hx2 => ?_
        refine nm (x1.l.getD (0 : Int).toNat default : Int) fun v1 hv1 => ?_
        refine nm (paths.getD (0 : Int).toNat default : Fat Int) fun x3 hx3 => ?_
        refine nm (x3.l.getD (0 : Int).toNat default : Int) fun v2 hv2 => ?_
        refine nm ((!(decide (Rv.walk x1.l x2.l))) || (!(decide (v1 = v2))) : Bool) fun p3 hp3 => ?_
        refine V.reg [.k (x1.s.v),
          .k (seens.v),
          .k (iv k0),
          .ix g0 (kf false (.f 1) seen (fun _ => seens)) k0 (fun _ => ⟨by omega, by omega⟩),
          .le g0 (kf false (.f 1) seen (fun _ => seens)) k0 none true x2 hx2 (fun _ => ⟨by omega, by omega⟩) false (fun _ => [x2.s.v]),
          .cp g0 5 74 [(kx false (.f 2) x1 x1.l (fun _ => x1.s) (fun _ _ h => h)).a, (kx false (.g 4 0) x2 x2.l (fun _ => x2.s) (fun _ _ h => h)).a] (fun _ G => walk_ct x1.l x1.s x2.l x2.s),
          .k (bv (!(decide (Rv.walk x1.l x2.l)))),
          .k (bv (!(decide (Rv.walk x1.l x2.l)))),
          .k (x1.s.v),
          .ix (gF (b := !(decide (Rv.walk x1.l x2.l))) (iNF iDT)) (kx false (.f 2) x1 x1.l (fun _ => x1.s) (fun _ _ h => h)) 0 (fun hg => ⟨by omega, by have := hg.1; omega⟩),
          .le (gF (b := !(decide (Rv.walk x1.l x2.l))) (iNF iDT)) (kx false (.f 2) x1 x1.l (fun _ => x1.s) (fun _ _ h => h)) (0 : Int) none false v1 hv1 (fun hg => ⟨by omega, by have := hg.1; omega⟩) false (fun _ => [iv v1]),
          .k (pathss.v),
          .ix (gF (b := !(decide (Rv.walk x1.l x2.l))) (iNF iDT)) (kf false (.f 0) paths (fun _ => pathss)) 0 (fun hg => ⟨by omega, by omega⟩),
          .le (gF (b := !(decide (Rv.walk x1.l x2.l))) (iNF iDT)) (kf false (.f 0) paths (fun _ => pathss)) (0 : Int) none true x3 hx3 (fun hg => ⟨by omega, by omega⟩) false (fun _ => [x3.s.v]),
          .ix (gF (b := !(decide (Rv.walk x1.l x2.l))) (iNF iDT)) (kx false (.g 13 0) x3 x3.l (fun _ => x3.s) (fun _ _ h => h)) 0 (fun hg => ⟨by omega, by have := Rv.head_ne (by omega) hf3 hx1 hx2 hg hx3; omega⟩),
          .le (gF (b := !(decide (Rv.walk x1.l x2.l))) (iNF iDT)) (kx false (.g 13 0) x3 x3.l (fun _ => x3.s) (fun _ _ h => h)) (0 : Int) none false v2 hv2 (fun hg => ⟨by omega, by have := Rv.head_ne (by omega) hf3 hx1 hx2 hg hx3; omega⟩) false (fun _ => [iv v2]),
          .k (bv (!(decide (v1 = v2)))),
          .orn g0 false (!(decide (Rv.walk x1.l x2.l))) (!(decide (v1 = v2))) p3 hp3] (fun _ _ => by kernel_rfl) fun _ _ G8 kw9 => ?_
        intro S8 t8
        obtain ⟨⟨kl4, -⟩, -⟩ : Lq x2.l x2.s.v ∧ True ∧ True := kn kw9 (by kernel_rfl)
        clear kw9
        refine V.cond (b := p3) (iN hp3 (iOT (iNT iDF) (iNT iDF))) (iN hp3 (iOF (iNF iDT) (iNF iDT))) (by kernel_rfl) (fun q5 => ?_) (fun q6 => ?_)
        · skip
          refine V.go [.k (bv false)] (fun _ _ => by kernel_rfl) fun _ _ G9 => ?_
          intro S9 t9
          have e0 : false = decide (Rv.Form (Rv.ls paths) (Rv.ls seen)) := by
            symm; rw [decide_eq_false_iff_not]
            refine Rv.form_no (k := k0.toNat) (by simp; omega) fun hr => ?_
            have hr2 := (Rv.row_iff hx1 hx2 hv1 hx3 hv2 rfl rfl rfl).1 hr
            rcases q5 with h | h
            · exact h hr2.1.1
            · exact h hr2.1.2
          exact V.ret [0] [] [] [] [] [] (bv false) (fun _ _ => by kernel_rfl) (fun _ _ => (Eq.trans (by kernel_rfl) (cong1 (fun (x0 : Bool) => (bv x0 : Value)) e0)).trans (by kernel_rfl)) (fun _ _ => trivial)
        · skip
          have hw := q6.1
          have hw1 := hw.1; have hw2 : x2.l.length ≠ 0 := by rw [hw.2.1]; exact hw.1
          refine nm (seen.getD (0 : Int).toNat default : Fat DThing) fun x4 hx4 => ?_
          refine nm (x4.l.getD (0 : Int).toNat default : DThing) fun x5 hx5 => ?_
          refine nm (x2.l.getD (0 : Int).toNat default : DThing) fun x6 hx6 => ?_
          refine V.reg [.k (seens.v),
            .ix g0 (kf false (.f 1) seen (fun _ => seens)) 0 (fun _ => ⟨by omega, by omega⟩),
            .le g0 (kf false (.f 1) seen (fun _ => seens)) (0 : Int) none true x4 hx4 (fun _ => ⟨by omega, by omega⟩) false (fun _ => [x4.s.v]),
            .ix g0 (kx false (.g 2 0) x4 x4.l (fun _ => x4.s) (fun _ _ h => h)) 0 (fun _ => ⟨by omega, by have := Rv.head_ne2 (by omega) hf3 hx1 hx2 hw hx4; omega⟩),
            .le g0 (kx false (.g 2 0) x4 x4.l (fun _ => x4.s) (fun _ _ h => h)) (0 : Int) none false x5 hx5 (fun _ => ⟨by omega, by have := Rv.head_ne2 (by omega) hf3 hx1 hx2 hw hx4; omega⟩) true (fun _ => Dat.cells x5),
            .k (seens.v),
            .k (iv k0),
            .ix g0 (kf false (.f 1) seen (fun _ => seens)) k0 (fun _ => ⟨by omega, by omega⟩),
            .le g0 (kf false (.f 1) seen (fun _ => seens)) k0 none true x2 hx2 (fun _ => ⟨by omega, by omega⟩) false (fun _ => [x2.s.v]),
            .ix g0 (kx false (.g 8 0) x2 x2.l (fun _ => x2.s) (fun _ _ h => h)) 0 (fun _ => ⟨by omega, by have := hw2; omega⟩),
            .le g0 (kx false (.g 8 0) x2 x2.l (fun _ => x2.s) (fun _ _ h => h)) (0 : Int) none false x6 hx6 (fun _ => ⟨by omega, by have := hw2; omega⟩) true (fun _ => Dat.cells x6),
            .nb 11 1 (fun b => pp b 0) 44 (fun _ => ca (DThing.mk ByteArray.empty 0 0 0 0)),
            .nb 12 2 (fun b => pp b 0) 44 (fun _ => ca (DThing.mk ByteArray.empty 0 0 0 0)),
            .st 1 (fun G => .blk ((G 11).b) (ca x5) 44),
            .st 2 (fun G => .blk ((G 12).b) (ca x6) 44)] (fun _ _ => by kernel_rfl) fun _ _ G10 kw11 => ?_
          intro S10 t10
          obtain ⟨⟨kl5, -⟩, ⟨kl6, -⟩, -⟩ : Lq x4.l x4.s.v ∧ Lq x2.l x2.s.v ∧ True ∧ True := kn kw11 (by kernel_rfl)
          clear kw11
          refine nm ((!(decide (x5.Value = x6.Value))) || (!(decide (x5.Blind = x6.Blind))) : Bool) fun p4 hp4 => ?_
          refine V.go [.k (pp ((G10 11).b) 1),
            .ld 1 1 false (fun _ => [iv x5.Value]),
            .k (pp ((G10 12).b) 1),
            .ld 2 1 false (fun _ => [iv x6.Value]),
            .k (bv (!(decide (x5.Value = x6.Value)))),
            .k (bv (!(decide (x5.Value = x6.Value)))),
            .k (pp ((G10 11).b) 2),
            .ld 1 2 false (fun _ => [iv x5.Blind]),
            .k (pp ((G10 12).b) 2),
            .ld 2 2 false (fun _ => [iv x6.Blind]),
            .k (bv (!(decide (x5.Blind = x6.Blind)))),
            .orn g0 false (!(decide (x5.Value = x6.Value))) (!(decide (x5.Blind = x6.Blind))) p4 hp4] (fun _ _ => by kernel_rfl) fun _ _ G11 => ?_
          intro S11 t11
          refine V.cond (b := p4) (iN hp4 (iOT (iNT iDF) (iNT iDF))) (iN hp4 (iOF (iNF iDT) (iNF iDT))) (by kernel_rfl) (fun q7 => ?_) (fun q8 => ?_)
          · skip
            refine V.go [.k (bv false)] (fun _ _ => by kernel_rfl) fun _ _ G12 => ?_
            intro S12 t12
            have e0 : false = decide (Rv.Form (Rv.ls paths) (Rv.ls seen)) := by
              symm; rw [decide_eq_false_iff_not]
              refine Rv.form_no (k := k0.toNat) (by simp; omega) fun hr => ?_
              have hr2 := (Rv.row_iff hx1 hx2 hv1 hx3 hv2 hx4 hx5 hx6).1 hr
              rcases q7 with h | h
              · exact h hr2.2.1
              · exact h hr2.2.2
            exact V.ret [0] [] [] [] [] [] (bv false) (fun _ _ => by kernel_rfl) (fun _ _ => (Eq.trans (by kernel_rfl) (cong1 (fun (x0 : Bool) => (bv x0 : Value)) e0)).trans (by kernel_rfl)) (fun _ _ => trivial)
          · skip
            refine nm ((x1.l.length : Int) - 1 : Int) fun n1 hn1 => ?_
            refine nm (x1.l.getD n1.toNat default : Int) fun v3 hv3 => ?_
            refine nm (mupd v3 true m0 : List (Int × Bool)) fun m1 hm1 => ?_
            refine V.go [.k (.map (some ((G4 0).b))),
              .k (x1.s.v),
              .k (x1.s.v),
              .ln (kx false (.f 2) x1 x1.l (fun _ => x1.s) (fun _ _ h => h)),
              .ar ((x1.l.length : Int) - 1) n1 hn1 (by omega) (by omega),
              .ix g0 (kx false (.f 2) x1 x1.l (fun _ => x1.s) (fun _ _ h => h)) n1 (fun _ => ⟨by omega, by omega⟩),
              .le g0 (kx false (.f 2) x1 x1.l (fun _ => x1.s) (fun _ _ h => h)) n1 none false v3 hv3 (fun _ => ⟨by omega, by omega⟩) false (fun _ => [iv v3]),
              .mu 7 0 94 3 4 true false m0 (fun _ => (G4 0).b) v3 true m1 hm1 true (fun _ => rfl) [] (fun _ _ _ => trivial)] (fun _ _ => by kernel_rfl) fun _ _ G13 => ?_
            intro S13 t13
            refine V.go [.a (k0 + 1) (by omega) (by omega),
              .k (iv (k0 + 1))] (fun _ _ => by kernel_rfl) fun _ _ G14 => ?_
            intro S14 t14
            refine V.rnd hZ1 (k0 + 1, m1) [0, 1] (by kernel_rfl) ?_ ?_
            · skip
              refine ⟨?_, ?_, ?_, ?_⟩
              · show 0 ≤ (k0 + 1)
                first | omega | rfl | (simp; done) | (subst_vars; simp; done)
              · show (k0 + 1) ≤ (paths.length : Int)
                first | omega | rfl | (simp; done) | (subst_vars; simp; done)
              · show ∀ i, i < (k0 + 1).toNat → Rv.row (Rv.ls paths) (Rv.ls seen) i
                exact Rv.row_step (by omega) hf3 ((Rv.row_iff hx1 hx2 hv1 hx3 hv2 hx4 hx5 hx6).2 ⟨q6, q8⟩)
              · show m1 = Rv.endm ((Rv.ls paths).take (k0 + 1).toNat)
                exact Rv.endm_step (by omega) (by omega) hf4 hx1 hn1 hw.1 hv3 hm1
            · show ((paths.length : Int) - (k0 + 1)).toNat < ((paths.length : Int) - k0).toNat
              omega
      · skip
        refine V.go [.k (.map (some ((G4 0).b))),
          .ml 0 94 3 4 true false m0 (fun _ => (G4 0).b),
          .k (pathss.v),
          .ln (kf false (.f 0) paths (fun _ => pathss)),
          .k (bv (decide ((m0.length : Int) = (paths.length : Int)))),
          .k (bv (decide ((m0.length : Int) = (paths.length : Int))))] (fun _ _ => by kernel_rfl) fun _ _ G15 => ?_
        intro S15 t15
        have e0 : (decide ((m0.length : Int) = (paths.length : Int))) = decide (Rv.Form (Rv.ls paths) (Rv.ls seen)) := by
          refine Bool.eq_iff_iff.2 (Iff.trans iDT (Iff.trans ?_ decide_eq_true_iff.symm))
          exact Rv.form_fin (by omega) (by omega) (by omega) hf3 (by omega) hf4
        exact V.ret [0] [] [] [] [] [] (bv (decide ((m0.length : Int) = (paths.length : Int)))) (fun _ _ => by kernel_rfl) (fun _ _ => (Eq.trans (by kernel_rfl) (cong1 (fun (x0 : Bool) => (bv x0 : Value)) e0)).trans (by kernel_rfl)) (fun _ _ => trivial)

set_option maxRecDepth 10000 in
theorem rcheck_ct (v : List DThing) (vs : SV) (paths : List (Fat Int)) (pathss : SV) (seen : List (Fat DThing)) (seens : SV) (hp : ∀ x ∈ paths, x.l.length ≤ 5000000000000) :
    Cp Try.prog 35 #[ag (DVault.mk ⟨v, vs⟩), pathss.v, seens.v] [fs true v vs, fs true paths pathss, fs true seen seens] (bv (decide (Rv.CheckP v (Rv.ls paths) (Rv.ls seen)))) := by
  refine V.fn mo Try.func35 30 1 (by kernel_rfl) fun w H ε k0 => ?_
  obtain ⟨⟨kl1, -⟩, ⟨kl2, -⟩, ⟨kl3, -⟩, -⟩ : Lq v vs.v ∧ Lq paths pathss.v ∧ Lq seen seens.v ∧ True := kn k0 (by kernel_rfl)
  clear k0
  refine V.go [.nb 0 0 (fun b => pp b 0) 24 (fun _ => ca (DVault.mk ⟨v, vs⟩)),
    .k (bv false)] (fun _ _ => by kernel_rfl) fun _ _ G1 => ?_
  intro S1 t1
  refine V.go [.k (pathss.v),
    .k (seens.v),
    .cp g0 2 63 [(kf false (.f 1) paths (fun _ => pathss)).a, (kf false (.f 2) seen (fun _ => seens)).a] (fun _ G => form_ct paths pathss seen seens),
    .k (bv (!(decide (Rv.Form (Rv.ls paths) (Rv.ls seen)))))] (fun _ _ => by kernel_rfl) fun _ _ G2 => ?_
  intro S2 t2
  refine V.cond (b := !(decide (Rv.Form (Rv.ls paths) (Rv.ls seen)))) (iNT iDF) (iNF iDT) (by kernel_rfl) (fun q1 => ?_) (fun q2 => ?_)
  · skip
    refine V.go [.k (bv false)] (fun _ _ => by kernel_rfl) fun _ _ G3 => ?_
    intro S3 t3
    have e0 : false = decide (Rv.CheckP v (Rv.ls paths) (Rv.ls seen)) := by
      symm; rw [decide_eq_false_iff_not]
      exact fun h => q1 h.1
    exact V.ret [0] [] [] [] [] [] (bv false) (fun _ _ => by kernel_rfl) (fun _ _ => (Eq.trans (by kernel_rfl) (cong1 (fun (x0 : Bool) => (bv x0 : Value)) e0)).trans (by kernel_rfl)) (fun _ _ => trivial)
  · skip
    have hF : Rv.Form (Rv.ls paths) (Rv.ls seen) := by first | exact q2 | exact Decidable.not_not.1 q2
    have hq1 : seen.length = paths.length := by have := hF.2.2.1; rwa [Rv.ls_length, Rv.ls_length] at this
    refine V.go [.k (pathss.v),
      .ln (kf false (.f 1) paths (fun _ => pathss)),
      .k (iv 0)] (fun _ _ => by kernel_rfl) fun _ _ G4 => ?_
    intro S4 t4
    refine V.loop (γ := Int) (fun k0 => ⟨[(2, seens.v), (3, pp ((G1 0).b) 0), (13, pathss.v), (14, iv (paths.length : Int)), (15, iv k0)], [fs false seen seens, fs false paths pathss, fs false v vs], [.blk ((G1 0).b) (ca (DVault.mk ⟨v, vs⟩)) 24]⟩) (fun k0 => (0 ≤ k0) ∧ (k0 ≤ (paths.length : Int)) ∧ (∀ i, i < k0.toNat → Tm.viewF v (Rv.pl (Rv.ls paths) i) = Rv.sl (Rv.ls seen) i)) (fun k0 => ((paths.length : Int) - k0).toNat) 0 (by kernel_rfl) [2, 1, 0] (by kernel_rfl) ?_ ?_
    · skip
      refine ⟨?_, ?_, ?_⟩
      · show 0 ≤ (0 : Int)
        first | omega | rfl | (simp; done) | (subst_vars; simp; done)
      · show (0 : Int) ≤ (paths.length : Int)
        first | omega | rfl | (simp; done) | (subst_vars; simp; done)
      · show ∀ i, i < (0 : Int).toNat → Tm.viewF v (Rv.pl (Rv.ls paths) i) = Rv.sl (Rv.ls seen) i
        intro i hi; simp at hi
    · rintro k0 hF1 kw5 Z1 hZ1
      have hF1 : (0 ≤ k0) ∧ (k0 ≤ (paths.length : Int)) ∧ (∀ i, i < k0.toNat → Tm.viewF v (Rv.pl (Rv.ls paths) i) = Rv.sl (Rv.ls seen) i) := hF1
      obtain ⟨hf1, hf2, hf3⟩ := hF1
      clear kw5
      refine V.go [.k (bv (decide (k0 < (paths.length : Int))))] (fun _ _ => by kernel_rfl) fun _ _ G5 => ?_
      intro S5 t5
      refine V.cond (b := decide (k0 < (paths.length : Int))) iDT iDF (by kernel_rfl) (fun q3 => ?_) (fun q4 => ?_)
      · skip
        refine nm (paths.getD k0.toNat default : Fat Int) fun x1 hx1 => ?_
        refine V.reg [.k (iv k0),
          .ix g0 (kf false (.f 1) paths (fun _ => pathss)) k0 (fun _ => ⟨by omega, by omega⟩),
          .le g0 (kf false (.f 1) paths (fun _ => pathss)) k0 none true x1 hx1 (fun _ => ⟨by omega, by omega⟩) false (fun _ => [x1.s.v]),
          .k (iv k0),
          .k (x1.s.v)] (fun _ _ => by kernel_rfl) fun _ _ G6 kw7 => ?_
        intro S6 t6
        obtain ⟨⟨kl4, -⟩, -⟩ : Lq x1.l x1.s.v ∧ True := kn kw7 (by kernel_rfl)
        clear kw7
        refine nm (seen.getD k0.toNat default : Fat DThing) fun x2 hx2 => ?_
        refine V.reg [.ld 0 0 true (fun _ => Dat.cells (DVault.mk ⟨v, vs⟩)),
          .k (x1.s.v),
          .ct g0 2 22 false [] [] [(kf false (.f 2) v (fun _ => vs)).a, (kx false (.f 3) x1 x1.l (fun _ => x1.s) (fun _ _ h => h)).a] (fun _ G => view_ct v vs x1.l x1.s (hp _ (getD_mem (by omega) hx1))),
          .k (seens.v),
          .k (iv k0),
          .ix g0 (kf false (.f 0) seen (fun _ => seens)) k0 (fun _ => ⟨by omega, by omega⟩),
          .le g0 (kf false (.f 0) seen (fun _ => seens)) k0 none true x2 hx2 (fun _ => ⟨by omega, by omega⟩) false (fun _ => [x2.s.v]),
          .cp g0 7 65 [(kf true (.g 2 0) (Tm.viewF v x1.l) (fun G => (G 2).ss 0)).a, (kx false (.g 6 0) x2 x2.l (fun _ => x2.s) (fun _ _ h => h)).a] (fun _ G => equal_ct (Tm.viewF v x1.l) ((G 2).ss 0) x2.l x2.s),
          .k (bv (!(decide ((Tm.viewF v x1.l) = x2.l))))] (fun _ _ => by kernel_rfl) fun _ _ G7 kw8 => ?_
        intro S7 t7
        obtain ⟨⟨kl5, -⟩, ⟨kl6, -⟩, -⟩ : Lq (Tm.viewF v x1.l) (((G7 2).ss 0).v) ∧ Lq x2.l x2.s.v ∧ True := kn kw8 (by kernel_rfl)
        clear kw8
        refine V.cond (b := !(decide ((Tm.viewF v x1.l) = x2.l))) (iNT iDF) (iNF iDT) (by kernel_rfl) (fun q5 => ?_) (fun q6 => ?_)
        · skip
          refine V.go [.k (bv false)] (fun _ _ => by kernel_rfl) fun _ _ G8 => ?_
          intro S8 t8
          have e0 : false = decide (Rv.CheckP v (Rv.ls paths) (Rv.ls seen)) := by
            symm; rw [decide_eq_false_iff_not]
            intro h; apply q5; have h2 := h.2 k0.toNat (by simp; omega); rw [Rv.pl_ls hx1, Rv.sl_ls hx2] at h2; exact h2
          exact V.ret [0] [] [] [] [] [] (bv false) (fun _ _ => by kernel_rfl) (fun _ _ => (Eq.trans (by kernel_rfl) (cong1 (fun (x0 : Bool) => (bv x0 : Value)) e0)).trans (by kernel_rfl)) (fun _ _ => trivial)
        · skip
          refine V.go [.a (k0 + 1) (by omega) (by omega),
            .k (iv (k0 + 1))] (fun _ _ => by kernel_rfl) fun _ _ G9 => ?_
          intro S9 t9
          refine V.rnd hZ1 (k0 + 1) [0, 1, 2] (by kernel_rfl) ?_ ?_
          · skip
            refine ⟨?_, ?_, ?_⟩
            · show 0 ≤ (k0 + 1)
              first | omega | rfl | (simp; done) | (subst_vars; simp; done)
            · show (k0 + 1) ≤ (paths.length : Int)
              first | omega | rfl | (simp; done) | (subst_vars; simp; done)
            · show ∀ i, i < (k0 + 1).toNat → Tm.viewF v (Rv.pl (Rv.ls paths) i) = Rv.sl (Rv.ls seen) i
              exact Rv.check_step (by omega) hf3 hx1 hx2 q6
          · show ((paths.length : Int) - (k0 + 1)).toNat < ((paths.length : Int) - k0).toNat
            omega
      · skip
        refine V.go [.k (bv true)] (fun _ _ => by kernel_rfl) fun _ _ G10 => ?_
        intro S10 t10
        have e0 : true = decide (Rv.CheckP v (Rv.ls paths) (Rv.ls seen)) := by
          symm; rw [decide_eq_true_iff]; exact ⟨hF, fun i hi => hf3 i (by rw [Rv.ls_length] at hi; omega)⟩
        exact V.ret [0] [] [] [] [] [] (bv true) (fun _ _ => by kernel_rfl) (fun _ _ => (Eq.trans (by kernel_rfl) (cong1 (fun (x0 : Bool) => (bv x0 : Value)) e0)).trans (by kernel_rfl)) (fun _ _ => trivial)

set_option maxRecDepth 10000 in
theorem rest_ct (paths : List (Fat Int)) (pathss : SV) (seen : List (Fat DThing)) (seens : SV) :
    Cp Try.prog 32 #[pathss.v, seens.v] [fs true paths pathss, fs true seen seens] (.tuple #[iv (Rv.restV (Rv.ls paths) (Rv.ls seen)), bv (decide (Rv.restB (Rv.ls paths) (Rv.ls seen)))]) := by
  refine V.fn mo Try.func32 38 0 (by kernel_rfl) fun w H ε k0 => ?_
  obtain ⟨⟨kl1, -⟩, ⟨kl2, -⟩, -⟩ : Lq paths pathss.v ∧ Lq seen seens.v ∧ True := kn k0 (by kernel_rfl)
  clear k0
  refine V.go [.k (iv 0),
    .k (bv false)] (fun _ _ => by kernel_rfl) fun _ _ G1 => ?_
  intro S1 t1
  refine V.go [.k (pathss.v),
    .k (seens.v),
    .cp g0 2 63 [(kf false (.f 0) paths (fun _ => pathss)).a, (kf false (.f 1) seen (fun _ => seens)).a] (fun _ G => form_ct paths pathss seen seens),
    .k (bv (!(decide (Rv.Form (Rv.ls paths) (Rv.ls seen)))))] (fun _ _ => by kernel_rfl) fun _ _ G2 => ?_
  intro S2 t2
  refine V.cond (b := !(decide (Rv.Form (Rv.ls paths) (Rv.ls seen)))) (iNT iDF) (iNF iDT) (by kernel_rfl) (fun q1 => ?_) (fun q2 => ?_)
  · skip
    refine V.go [.k (iv 0),
      .k (bv false)] (fun _ _ => by kernel_rfl) fun _ _ G3 => ?_
    intro S3 t3
    have e0 : (0 : Int) = Rv.restV (Rv.ls paths) (Rv.ls seen) := by
      exact (Rv.restV_no fun h => q1 h.1).symm
    have e1 : false = decide (Rv.restB (Rv.ls paths) (Rv.ls seen)) := by
      symm; rw [decide_eq_false_iff_not]
      exact fun h => q1 h.1
    exact V.ret [0, 0] [] [] [] [] [] (.tuple #[iv 0, bv false]) (fun _ _ => by kernel_rfl) (fun _ _ => (Eq.trans (by kernel_rfl) (cong2 (fun (x0 : Int) (x1 : Bool) => (.tuple #[iv x0, bv x1] : Value)) e0 e1)).trans (by kernel_rfl)) (fun _ _ => trivial)
  · skip
    have hF : Rv.Form (Rv.ls paths) (Rv.ls seen) := by first | exact q2 | exact Decidable.not_not.1 q2
    have hq1 := Rv.form_q hF
    refine nm (seen.getD (0 : Int).toNat default : Fat DThing) fun x1 hx1 => ?_
    refine nm (x1.l.getD (0 : Int).toNat default : DThing) fun x2 hx2 => ?_
    have hl0 := Rv.len_ne hF (k := 0) (by omega) (by omega) hx1
    have hb0 := (Rv.form_lst hF (i := 0) (by rw [Rv.ls_length]; omega)).2.2
    rw [show Rv.te (Rv.sl (Rv.ls seen) 0) 0 = x2 by rw [hx2, hx1, Rv.sl_ls']; rfl] at hb0
    unfold Tm.Bd at hb0
    refine V.reg [.k (seens.v),
      .ix g0 (kf false (.f 1) seen (fun _ => seens)) 0 (fun _ => ⟨by omega, by omega⟩),
      .le g0 (kf false (.f 1) seen (fun _ => seens)) (0 : Int) none true x1 hx1 (fun _ => ⟨by omega, by omega⟩) false (fun _ => [x1.s.v]),
      .ix g0 (kx false (.g 2 0) x1 x1.l (fun _ => x1.s) (fun _ _ h => h)) 0 (fun _ => ⟨by omega, by omega⟩),
      .k (.pointer (some ((elemAddr x1.s.v ((0 : Int).toNat * 5)).add 1))),
      .le g0 (kx false (.g 2 0) x1 x1.l (fun _ => x1.s) (fun _ _ h => h)) (0 : Int) (some 1) false x2 hx2 (fun _ => ⟨by omega, by omega⟩) false (fun _ => [iv x2.Value]),
      .k (iv x2.Value)] (fun _ _ => by kernel_rfl) fun _ _ G4 kw4 => ?_
    intro S4 t4
    obtain ⟨⟨kl3, -⟩, -⟩ : Lq x1.l x1.s.v ∧ True := kn kw4 (by kernel_rfl)
    clear kw4
    refine V.go [.k (seens.v),
      .ln (kf false (.f 1) seen (fun _ => seens)),
      .k (iv 0)] (fun _ _ => by kernel_rfl) fun _ _ G5 => ?_
    intro S5 t5
    refine V.loop (γ := Int × Int) (fun ⟨rest, k0⟩ => ⟨[(6, iv rest), (19, seens.v), (20, iv (seen.length : Int)), (21, iv k0)], [fs false seen seens], []⟩) (fun ⟨rest, k0⟩ => (0 ≤ k0) ∧ (k0 ≤ (seen.length : Int)) ∧ (rest = x2.Value - Rv.opn (Rv.ls seen) k0.toNat) ∧ (-1125899906842624 * k0 ≤ rest) ∧ (rest ≤ 1125899906842624)) (fun ⟨rest, k0⟩ => ((seen.length : Int) - k0).toNat) (x2.Value, 0) (by kernel_rfl) [1] (by kernel_rfl) ?_ ?_
    · skip
      refine ⟨?_, ?_, ?_, ?_, ?_⟩
      · show 0 ≤ (0 : Int)
        omega
      · show (0 : Int) ≤ (seen.length : Int)
        omega
      · show x2.Value = x2.Value - Rv.opn (Rv.ls seen) (0 : Int).toNat
        simp [Rv.opn]
      · show -1125899906842624 * (0 : Int) ≤ x2.Value
        omega
      · show x2.Value ≤ 1125899906842624
        omega
    · rintro ⟨rest, k0⟩ hF1 kw6 Z1 hZ1
      have hF1 : (0 ≤ k0) ∧ (k0 ≤ (seen.length : Int)) ∧ (rest = x2.Value - Rv.opn (Rv.ls seen) k0.toNat) ∧ (-1125899906842624 * k0 ≤ rest) ∧ (rest ≤ 1125899906842624) := hF1
      obtain ⟨hf1, hf2, hf3, hf4, hf5⟩ := hF1
      clear kw6
      refine V.go [.k (bv (decide (k0 < (seen.length : Int))))] (fun _ _ => by kernel_rfl) fun _ _ G6 => ?_
      intro S6 t6
      refine V.cond (b := decide (k0 < (seen.length : Int))) iDT iDF (by kernel_rfl) (fun q3 => ?_) (fun q4 => ?_)
      · skip
        refine nm (seen.getD k0.toNat default : Fat DThing) fun x3 hx3 => ?_
        refine V.reg [.ix g0 (kf false (.f 0) seen (fun _ => seens)) k0 (fun _ => ⟨by omega, by omega⟩),
          .le g0 (kf false (.f 0) seen (fun _ => seens)) k0 none true x3 hx3 (fun _ => ⟨by omega, by omega⟩) false (fun _ => [x3.s.v]),
          .k (x3.s.v)] (fun _ _ => by kernel_rfl) fun _ _ G7 kw8 => ?_
        intro S7 t7
        obtain ⟨⟨kl4, -⟩, -⟩ : Lq x3.l x3.s.v ∧ True := kn kw8 (by kernel_rfl)
        clear kw8
        refine nm ((x3.l.length : Int) - 1 : Int) fun n1 hn1 => ?_
        refine nm (x3.l.getD n1.toNat default : DThing) fun x4 hx4 => ?_
        refine nm (rest - x4.Value : Int) fun n2 hn2 => ?_
        have hl1 := Rv.len_ne hF (by omega) (by omega) hx3
        have hb1 := Rv.last_bd hF (by omega) (by omega) hx3 hn1 hx4
        unfold Tm.Bd at hb1
        refine V.go [.k (iv rest),
          .k (x3.s.v),
          .k (x3.s.v),
          .ln (kx false (.f 1) x3 x3.l (fun _ => x3.s) (fun _ _ h => h)),
          .ar ((x3.l.length : Int) - 1) n1 hn1 (by omega) (by omega),
          .ix g0 (kx false (.f 1) x3 x3.l (fun _ => x3.s) (fun _ _ h => h)) n1 (fun _ => ⟨by omega, by omega⟩),
          .k (.pointer (some ((elemAddr x3.s.v (n1.toNat * 5)).add 1))),
          .le g0 (kx false (.f 1) x3 x3.l (fun _ => x3.s) (fun _ _ h => h)) n1 (some 1) false x4 hx4 (fun _ => ⟨by omega, by omega⟩) false (fun _ => [iv x4.Value]),
          .ar (rest - x4.Value) n2 hn2 (by omega) (by omega),
          .k (iv n2)] (fun _ _ => by kernel_rfl) fun _ _ G8 => ?_
        intro S8 t8
        refine V.go [.a (k0 + 1) (by omega) (by omega),
          .k (iv (k0 + 1))] (fun _ _ => by kernel_rfl) fun _ _ G9 => ?_
        intro S9 t9
        refine V.rnd hZ1 (n2, k0 + 1) [0] (by kernel_rfl) ?_ ?_
        · skip
          refine ⟨?_, ?_, ?_, ?_, ?_⟩
          · show 0 ≤ (k0 + 1)
            omega
          · show (k0 + 1) ≤ (seen.length : Int)
            omega
          · show n2 = x2.Value - Rv.opn (Rv.ls seen) (k0 + 1).toNat
            rw [Rv.opn_step (by omega) (by omega) hx3 hn1 hx4]; omega
          · show -1125899906842624 * (k0 + 1) ≤ n2
            omega
          · show n2 ≤ 1125899906842624
            omega
        · show ((seen.length : Int) - (k0 + 1)).toNat < ((seen.length : Int) - k0).toNat
          omega
      · skip
        refine V.go [.k (iv rest),
          .k (bv (decide (rest < 0)))] (fun _ _ => by kernel_rfl) fun _ _ G10 => ?_
        intro S10 t10
        refine V.cond (b := decide (rest < 0)) iDT iDF (by kernel_rfl) (fun q5 => ?_) (fun q6 => ?_)
        · skip
          refine V.go [.k (iv 0),
            .k (bv false)] (fun _ _ => by kernel_rfl) fun _ _ G11 => ?_
          intro S11 t11
          have e0 : (0 : Int) = Rv.restV (Rv.ls paths) (Rv.ls seen) := by
            have hR := Rv.rest_eq (k := k0) hx1 hx2 hf3 (by omega)
            exact (Rv.restV_no fun h => by have := h.2; omega).symm
          have e1 : false = decide (Rv.restB (Rv.ls paths) (Rv.ls seen)) := by
            have hR := Rv.rest_eq (k := k0) hx1 hx2 hf3 (by omega)
            symm; rw [decide_eq_false_iff_not]
            exact fun h => by have := h.2; omega
          exact V.ret [0, 0] [] [] [] [] [] (.tuple #[iv 0, bv false]) (fun _ _ => by kernel_rfl) (fun _ _ => (Eq.trans (by kernel_rfl) (cong2 (fun (x0 : Int) (x1 : Bool) => (.tuple #[iv x0, bv x1] : Value)) e0 e1)).trans (by kernel_rfl)) (fun _ _ => trivial)
        · skip
          refine V.go [.k (iv rest),
            .k (iv rest),
            .k (bv true)] (fun _ _ => by kernel_rfl) fun _ _ G12 => ?_
          intro S12 t12
          have e0 : rest = Rv.restV (Rv.ls paths) (Rv.ls seen) := by
            have hR := Rv.rest_eq (k := k0) hx1 hx2 hf3 (by omega)
            rw [Rv.restV_yes ⟨hF, by omega⟩]; exact hR
          have e1 : true = decide (Rv.restB (Rv.ls paths) (Rv.ls seen)) := by
            have hR := Rv.rest_eq (k := k0) hx1 hx2 hf3 (by omega)
            symm; rw [decide_eq_true_iff]; exact ⟨hF, by omega⟩
          exact V.ret [0, 0] [] [] [] [] [] (.tuple #[iv rest, bv true]) (fun _ _ => by kernel_rfl) (fun _ _ => (Eq.trans (by kernel_rfl) (cong2 (fun (x0 : Int) (x1 : Bool) => (.tuple #[iv x0, bv x1] : Value)) e0 e1)).trans (by kernel_rfl)) (fun _ _ => trivial)

set_option maxRecDepth 10000 in
theorem put_ct (k_halves : List (Int × DThing)) (k_halvesb : Nat) (k_open : List (Int × DThing)) (k_openb : Nat) (at_ : Int) (x_Text : ByteArray) (x_Value x_Blind x_Left x_Right : Int) :
    Ct Try.prog 68 #[.agg #[.map (some k_halvesb), .map (some k_openb)], iv at_, ag (DThing.mk x_Text x_Value x_Blind x_Left x_Right)] [] [mp false true k_halves k_halvesb, mp false true k_open k_openb] (fun g => bv (decide (Rv.putB k_halves k_open at_ ⟨x_Text, x_Value, x_Blind, x_Left, x_Right⟩))) (fun g => []) (fun g => [mp true true (Rv.putH k_halves at_ ⟨x_Text, x_Value, x_Blind, x_Left, x_Right⟩) k_halvesb, mp true true (Rv.putO k_halves k_open at_ ⟨x_Text, x_Value, x_Blind, x_Left, x_Right⟩) k_openb]) (fun g => []) := by
  refine V.fn mo Try.func68 54 5 (by kernel_rfl) fun w H ε k0 => ?_
  clear k0
  refine V.trm true k_halves k_halvesb 0 (by kernel_rfl) (fun _ _ => trivial) ?_
  refine V.trm true k_open k_openb 1 (by kernel_rfl) (fun _ _ => trivial) ?_
  refine V.go [.nb 0 2 (fun b => pp b 0) 85 (fun _ => #[.map (some k_halvesb), .map (some k_openb)]),
    .nb 1 3 (fun b => pp b 0) 44 (fun _ => ca (DThing.mk x_Text x_Value x_Blind x_Left x_Right)),
    .k (bv false)] (fun _ _ => by kernel_rfl) fun _ _ G1 => ?_
  intro S1 t1
  refine V.go [.k (pp ((G1 1).b) 3),
    .ld 3 3 false (fun _ => [iv x_Left]),
    .k (pp ((G1 1).b) 4),
    .ld 3 4 false (fun _ => [iv x_Right]),
    .k (ag (DThing.mk ByteArray.empty 0 0 x_Left x_Right)),
    .nb 5 4 (fun b => pp b 0) 44 (fun _ => ca (DThing.mk ByteArray.empty 0 0 0 0)),
    .st 4 (fun G => .blk ((G 5).b) (ca (DThing.mk ByteArray.empty 0 0 x_Left x_Right)) 44)] (fun _ _ => by kernel_rfl) fun _ _ G2 => ?_
  intro S2 t2
  refine nm ((mlook at_ k_halves).getD default : DThing) fun x1 hx1 => ?_
  refine nm ((mlook at_ k_halves).isSome : Bool) fun is1 his1 => ?_
  refine V.go [.k (pp ((G1 0).b) 0),
    .ld 2 0 false (fun _ => [.map (some k_halvesb)]),
    .k (iv at_),
    .lk 0 83 3 44 true true true k_halves (fun _ => k_halvesb) at_ x1 hx1 is1 his1 false,
    .k (.tuple #[ag x1, bv is1]),
    .k (ag x1),
    .k (bv is1),
    .nb 7 5 (fun b => pp b 0) 44 (fun _ => ca (DThing.mk ByteArray.empty 0 0 0 0)),
    .st 5 (fun G => .blk ((G 7).b) (ca x1) 44),
    .k (bv is1)] (fun _ _ => by kernel_rfl) fun _ _ G3 => ?_
  intro S3 t3
  refine nm (is1 && (!(decide (x1.Text = ByteArray.empty ∧ x1.Value = 0 ∧ x1.Blind = 0 ∧ x1.Left = x_Left ∧ x1.Right = x_Right))) : Bool) fun p1 hp1 => ?_
  refine V.go [.k (bv is1),
    .k (bv is1),
    .ld 5 0 true (fun _ => Dat.cells x1),
    .ld 4 0 true (fun _ => Dat.cells (DThing.mk ByteArray.empty 0 0 x_Left x_Right)),
    .aeq true 44 (ca x1) (ca (DThing.mk ByteArray.empty 0 0 x_Left x_Right)) _ fun w => thing_equal w x1.Text x1.Value x1.Blind x1.Left x1.Right ByteArray.empty 0 0 x_Left x_Right,
    .andn g0 false is1 (!(decide (x1.Text = ByteArray.empty ∧ x1.Value = 0 ∧ x1.Blind = 0 ∧ x1.Left = x_Left ∧ x1.Right = x_Right))) p1 hp1] (fun _ _ => by kernel_rfl) fun _ _ G4 => ?_
  intro S4 t4
  refine V.cond (b := p1) (iN hp1 (iAT Iff.rfl (iNT iDF))) (iN hp1 (iAF Iff.rfl (iNF iDT))) (by kernel_rfl) (fun q1 => ?_) (fun q2 => ?_)
  · skip
    have hP := Rv.put_1 (o := k_open) (x := ⟨x_Text, x_Value, x_Blind, x_Left, x_Right⟩) hx1 his1 q1
    refine V.go [.k (bv false)] (fun _ _ => by kernel_rfl) fun _ _ G5 => ?_
    intro S5 t5
    have e0 : false = decide (Rv.putB k_halves k_open at_ ⟨x_Text, x_Value, x_Blind, x_Left, x_Right⟩) := by
      exact (decide_eq_false hP.1).symm
    have eL0 : k_halves = Rv.putH k_halves at_ ⟨x_Text, x_Value, x_Blind, x_Left, x_Right⟩ := by
      exact hP.2.1.symm
    refine V.alt (fun (zz1 : List (Int × DThing)) => (⟨[(6, bv false)], [], [mp true true zz1 k_halvesb, mp true true k_open k_openb, .blk ((G1 0).b) #[.map (some k_halvesb), .map (some k_openb)] 85, .blk ((G1 1).b) (ca (DThing.mk x_Text x_Value x_Blind x_Left x_Right)) 44, .blk ((G2 5).b) (ca (DThing.mk ByteArray.empty 0 0 x_Left x_Right)) 44, .blk ((G3 7).b) (ca x1) 44, .no]⟩ : St)) eL0 [] (by kernel_rfl) ?_
    have eL1 : k_open = Rv.putO k_halves k_open at_ ⟨x_Text, x_Value, x_Blind, x_Left, x_Right⟩ := by
      exact hP.2.2.symm
    refine V.alt (fun (zz2 : List (Int × DThing)) => (⟨[(6, bv false)], [], [mp true true (Rv.putH k_halves at_ ⟨x_Text, x_Value, x_Blind, x_Left, x_Right⟩) k_halvesb, mp true true zz2 k_openb, .blk ((G1 0).b) #[.map (some k_halvesb), .map (some k_openb)] 85, .blk ((G1 1).b) (ca (DThing.mk x_Text x_Value x_Blind x_Left x_Right)) 44, .blk ((G2 5).b) (ca (DThing.mk ByteArray.empty 0 0 x_Left x_Right)) 44, .blk ((G3 7).b) (ca x1) 44, .no]⟩ : St)) eL1 [] (by kernel_rfl) ?_
    exact V.ret [0] [] [] [] [] [0, 1] (bv false) (fun _ _ => by kernel_rfl) (fun _ _ => (Eq.trans (by kernel_rfl) (cong1 (fun (x0 : Bool) => (bv x0 : Value)) e0)).trans (by kernel_rfl)) (fun _ _ => trivial)
  · skip
    have hP2 := Rv.put_2 (o := k_open) (x := ⟨x_Text, x_Value, x_Blind, x_Left, x_Right⟩) hx1 his1 q2
    refine nm (mupd at_ (DThing.mk ByteArray.empty 0 0 x_Left x_Right) k_halves : List (Int × DThing)) fun m1 hm1 => ?_
    refine V.go [.k (pp ((G1 0).b) 0),
      .ld 2 0 false (fun _ => [.map (some k_halvesb)]),
      .k (iv at_),
      .ld 4 0 true (fun _ => Dat.cells (DThing.mk ByteArray.empty 0 0 x_Left x_Right)),
      .mu 4 0 83 3 44 true true k_halves (fun _ => k_halvesb) at_ (DThing.mk ByteArray.empty 0 0 x_Left x_Right) m1 hm1 true (fun _ => rfl) [] (fun _ _ _ => trivial)] (fun _ _ => by kernel_rfl) fun _ _ G6 => ?_
    intro S6 t6
    refine V.go [.k (pp ((G1 1).b) 1),
      .ld 3 1 false (fun _ => [iv x_Value]),
      .k (bv (decide (x_Value = (-1))))] (fun _ _ => by kernel_rfl) fun _ _ G7 => ?_
    intro S7 t7
    refine V.cond (b := decide (x_Value = (-1))) iDT iDF (by kernel_rfl) (fun q3 => ?_) (fun q4 => ?_)
    · skip
      have hP := Rv.put_3 (o := k_open) hP2.1 q3
      refine V.go [.k (bv true)] (fun _ _ => by kernel_rfl) fun _ _ G8 => ?_
      intro S8 t8
      have e0 : true = decide (Rv.putB k_halves k_open at_ ⟨x_Text, x_Value, x_Blind, x_Left, x_Right⟩) := by
        exact (decide_eq_true hP.1).symm
      have eL0 : m1 = Rv.putH k_halves at_ ⟨x_Text, x_Value, x_Blind, x_Left, x_Right⟩ := by
        rw [hm1]; exact hP2.2.symm
      subst eL0
      have eL1 : k_open = Rv.putO k_halves k_open at_ ⟨x_Text, x_Value, x_Blind, x_Left, x_Right⟩ := by
        exact hP.2.symm
      refine V.alt (fun (zz3 : List (Int × DThing)) => (⟨[(6, bv true)], [], [mp true true (Rv.putH k_halves at_ ⟨x_Text, x_Value, x_Blind, x_Left, x_Right⟩) k_halvesb, mp true true zz3 k_openb, .blk ((G1 0).b) #[.map (some k_halvesb), .map (some k_openb)] 85, .blk ((G1 1).b) (ca (DThing.mk x_Text x_Value x_Blind x_Left x_Right)) 44, .blk ((G2 5).b) (ca (DThing.mk ByteArray.empty 0 0 x_Left x_Right)) 44, .blk ((G3 7).b) (ca x1) 44, .no]⟩ : St)) eL1 [] (by kernel_rfl) ?_
      exact V.ret [0] [] [] [] [] [0, 1] (bv true) (fun _ _ => by kernel_rfl) (fun _ _ => (Eq.trans (by kernel_rfl) (cong1 (fun (x0 : Bool) => (bv x0 : Value)) e0)).trans (by kernel_rfl)) (fun _ _ => trivial)
    · skip
      refine nm ((mlook at_ k_open).getD default : DThing) fun x2 hx2 => ?_
      refine nm ((mlook at_ k_open).isSome : Bool) fun is2 his2 => ?_
      refine V.go [.k (pp ((G1 0).b) 1),
        .ld 2 1 false (fun _ => [.map (some k_openb)]),
        .k (iv at_),
        .lk 1 83 3 44 true true true k_open (fun _ => k_openb) at_ x2 hx2 is2 his2 false,
        .k (.tuple #[ag x2, bv is2]),
        .k (ag x2),
        .k (bv is2),
        .nb 7 6 (fun b => pp b 0) 44 (fun _ => ca (DThing.mk ByteArray.empty 0 0 0 0)),
        .st 6 (fun G => .blk ((G 7).b) (ca x2) 44),
        .k (bv is2)] (fun _ _ => by kernel_rfl) fun _ _ G9 => ?_
      intro S9 t9
      refine nm (is2 && (!(decide (x2.Text = x_Text ∧ x2.Value = x_Value ∧ x2.Blind = x_Blind ∧ x2.Left = x_Left ∧ x2.Right = x_Right))) : Bool) fun p2 hp2 => ?_
      refine V.go [.k (bv is2),
        .k (bv is2),
        .ld 6 0 true (fun _ => Dat.cells x2),
        .ld 3 0 true (fun _ => Dat.cells (DThing.mk x_Text x_Value x_Blind x_Left x_Right)),
        .aeq true 44 (ca x2) (ca (DThing.mk x_Text x_Value x_Blind x_Left x_Right)) _ fun w => thing_equal w x2.Text x2.Value x2.Blind x2.Left x2.Right x_Text x_Value x_Blind x_Left x_Right,
        .andn g0 false is2 (!(decide (x2.Text = x_Text ∧ x2.Value = x_Value ∧ x2.Blind = x_Blind ∧ x2.Left = x_Left ∧ x2.Right = x_Right))) p2 hp2] (fun _ _ => by kernel_rfl) fun _ _ G10 => ?_
      intro S10 t10
      refine V.cond (b := p2) (iN hp2 (iAT Iff.rfl (iNT iDF))) (iN hp2 (iAF Iff.rfl (iNF iDT))) (by kernel_rfl) (fun q5 => ?_) (fun q6 => ?_)
      · skip
        have hP := Rv.put_4 (x := ⟨x_Text, x_Value, x_Blind, x_Left, x_Right⟩) hP2.1 q4 hx2 his2 q5
        refine V.go [.k (bv false)] (fun _ _ => by kernel_rfl) fun _ _ G11 => ?_
        intro S11 t11
        have e0 : false = decide (Rv.putB k_halves k_open at_ ⟨x_Text, x_Value, x_Blind, x_Left, x_Right⟩) := by
          exact (decide_eq_false hP.1).symm
        have eL0 : m1 = Rv.putH k_halves at_ ⟨x_Text, x_Value, x_Blind, x_Left, x_Right⟩ := by
          rw [hm1]; exact hP2.2.symm
        subst eL0
        have eL1 : k_open = Rv.putO k_halves k_open at_ ⟨x_Text, x_Value, x_Blind, x_Left, x_Right⟩ := by
          exact hP.2.symm
        refine V.alt (fun (zz4 : List (Int × DThing)) => (⟨[(6, bv false)], [], [mp true true (Rv.putH k_halves at_ ⟨x_Text, x_Value, x_Blind, x_Left, x_Right⟩) k_halvesb, mp true true zz4 k_openb, .blk ((G1 0).b) #[.map (some k_halvesb), .map (some k_openb)] 85, .blk ((G1 1).b) (ca (DThing.mk x_Text x_Value x_Blind x_Left x_Right)) 44, .blk ((G2 5).b) (ca (DThing.mk ByteArray.empty 0 0 x_Left x_Right)) 44, .blk ((G3 7).b) (ca x1) 44, .blk ((G9 7).b) (ca x2) 44]⟩ : St)) eL1 [] (by kernel_rfl) ?_
        exact V.ret [0] [] [] [] [] [0, 1] (bv false) (fun _ _ => by kernel_rfl) (fun _ _ => (Eq.trans (by kernel_rfl) (cong1 (fun (x0 : Bool) => (bv x0 : Value)) e0)).trans (by kernel_rfl)) (fun _ _ => trivial)
      · skip
        have hP := Rv.put_5 (x := ⟨x_Text, x_Value, x_Blind, x_Left, x_Right⟩) hP2.1 q4 hx2 his2 q6
        refine nm (mupd at_ (DThing.mk x_Text x_Value x_Blind x_Left x_Right) k_open : List (Int × DThing)) fun m2 hm2 => ?_
        refine V.go [.k (pp ((G1 0).b) 1),
          .ld 2 1 false (fun _ => [.map (some k_openb)]),
          .k (iv at_),
          .ld 3 0 true (fun _ => Dat.cells (DThing.mk x_Text x_Value x_Blind x_Left x_Right)),
          .mu 4 1 83 3 44 true true k_open (fun _ => k_openb) at_ (DThing.mk x_Text x_Value x_Blind x_Left x_Right) m2 hm2 true (fun _ => rfl) [] (fun _ _ _ => trivial)] (fun _ _ => by kernel_rfl) fun _ _ G12 => ?_
        intro S12 t12
        refine V.go [.k (bv true)] (fun _ _ => by kernel_rfl) fun _ _ G13 => ?_
        intro S13 t13
        have e0 : true = decide (Rv.putB k_halves k_open at_ ⟨x_Text, x_Value, x_Blind, x_Left, x_Right⟩) := by
          exact (decide_eq_true hP.1).symm
        have eL0 : m1 = Rv.putH k_halves at_ ⟨x_Text, x_Value, x_Blind, x_Left, x_Right⟩ := by
          rw [hm1]; exact hP2.2.symm
        subst eL0
        have eL1 : m2 = Rv.putO k_halves k_open at_ ⟨x_Text, x_Value, x_Blind, x_Left, x_Right⟩ := by
          rw [hm2]; exact hP.2.symm
        subst eL1
        exact V.ret [0] [] [] [] [] [0, 1] (bv true) (fun _ _ => by kernel_rfl) (fun _ _ => (Eq.trans (by kernel_rfl) (cong1 (fun (x0 : Bool) => (bv x0 : Value)) e0)).trans (by kernel_rfl)) (fun _ _ => trivial)

end Kb
