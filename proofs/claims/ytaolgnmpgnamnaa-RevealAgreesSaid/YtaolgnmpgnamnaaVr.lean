/- The contracts of the references: limits and sameness. -/
import Derived.Test.YtaolgnmpgnamnaaVg
import Derived.Test.YtaolgnmpgnamnaaRl
set_option linter.unusedVariables false
set_option linter.unusedSimpArgs false
namespace Kb
open Go Go.Proofs
set_option maxRecDepth 10000 in
theorem fewv_ct (v : List DThing) (vs : SV) (most : Int) :
    Cp Try.prog 14 #[ag (DVault.mk ⟨v, vs⟩), iv most] [fs true v vs] (bv (decide (Tm.fewP v most))) := by
  refine V.fn mo Try.func14 31 1 (by kernel_rfl) fun w H ε k0 => ?_
  obtain ⟨⟨kl1, -⟩, -⟩ : Lq v vs.v ∧ True := kn k0 (by kernel_rfl)
  clear k0
  refine V.go [.nb 0 0 (fun b => pp b 0) 24 (fun _ => ca (DVault.mk ⟨v, vs⟩)),
    .k (bv false)] (fun _ _ => by kernel_rfl) fun _ _ G1 => ?_
  intro S1 t1
  refine V.go [.k (iv 0)] (fun _ _ => by kernel_rfl) fun _ _ G2 => ?_
  intro S2 t2
  refine V.loop (γ := Int) (fun i => ⟨[(1, iv most), (2, pp ((G1 0).b) 0), (5, iv i)], [fs false v vs], [.blk ((G1 0).b) (ca (DVault.mk ⟨v, vs⟩)) 24]⟩) (fun i => (0 ≤ i) ∧ (∀ j, j < i.toNat → (v.getD j default).Text.size ≤ 100)) (fun i => ((v.length : Int) - i).toNat) 0 (by kernel_rfl) [0] (by kernel_rfl) ?_ ?_
  · skip
    refine ⟨?_, ?_⟩
    · show 0 ≤ (0 : Int)
      first | omega | rfl | (simp; done) | (subst_vars; simp; done)
    · show ∀ j, j < (0 : Int).toNat → (v.getD j default).Text.size ≤ 100
      intro j hj; simp at hj
  · rintro i hF1 kw3 Z1 hZ1
    have hF1 : (0 ≤ i) ∧ (∀ j, j < i.toNat → (v.getD j default).Text.size ≤ 100) := hF1
    obtain ⟨hf1, hf2⟩ := hF1
    clear kw3
    refine nm ((decide (i < (v.length : Int))) && (decide (i < most)) : Bool) fun p1 hp1 => ?_
    refine V.go [.k (iv i),
      .k (pp ((G1 0).b) 0),
      .ld 0 0 false (fun _ => [vs.v]),
      .ln (kf false (.f 0) v (fun _ => vs)),
      .k (bv (decide (i < (v.length : Int)))),
      .k (bv (decide (i < (v.length : Int)))),
      .k (iv i),
      .k (iv most),
      .k (bv (decide (i < most))),
      .andn g0 false (decide (i < (v.length : Int))) (decide (i < most)) p1 hp1] (fun _ _ => by kernel_rfl) fun _ _ G3 => ?_
    intro S3 t3
    refine V.cond (b := p1) (iN hp1 (iAT iDT iDT)) (iN hp1 (iAF iDF iDF)) (by kernel_rfl) (fun q1 => ?_) (fun q2 => ?_)
    · skip
      refine nm (v.getD i.toNat default : DThing) fun x1 hx1 => ?_
      refine V.go [.k (pp ((G1 0).b) 0),
        .ld 0 0 false (fun _ => [vs.v]),
        .k (iv i),
        .ix g0 (kf false (.f 0) v (fun _ => vs)) i (fun _ => ⟨by omega, by omega⟩),
        .k (.pointer (some ((elemAddr vs.v (i.toNat * 5)).add 0))),
        .le g0 (kf false (.f 0) v (fun _ => vs)) i (some 0) false x1 hx1 (fun _ => ⟨by omega, by omega⟩) false (fun _ => [tv x1.Text]),
        .k (iv (x1.Text.size : Int)),
        .k (bv (decide (100 < (x1.Text.size : Int))))] (fun _ _ => by kernel_rfl) fun _ _ G4 => ?_
      intro S4 t4
      refine V.cond (b := decide (100 < (x1.Text.size : Int))) iDT iDF (by kernel_rfl) (fun q3 => ?_) (fun q4 => ?_)
      · skip
        refine V.go [.k (bv false)] (fun _ _ => by kernel_rfl) fun _ _ G5 => ?_
        intro S5 t5
        have e0 : false = decide (Tm.fewP v most) := by
          exact Tm.few_no (k := i) (by omega) (by omega) (by omega) hx1 rfl (by omega)
        exact V.ret [0] [] [] [] [] [] (bv false) (fun _ _ => by kernel_rfl) (fun _ _ => (Eq.trans (by kernel_rfl) (cong1 (fun (x0 : Bool) => (bv x0 : Value)) e0)).trans (by kernel_rfl)) (fun _ _ => trivial)
      · skip
        refine V.go [.k (iv i),
          .a (i + 1) (by omega) (by omega),
          .k (iv (i + 1))] (fun _ _ => by kernel_rfl) fun _ _ G6 => ?_
        intro S6 t6
        refine V.rnd hZ1 (i + 1) [0] (by kernel_rfl) ?_ ?_
        · skip
          refine ⟨?_, ?_⟩
          · show 0 ≤ (i + 1)
            omega
          · show ∀ j, j < (i + 1).toNat → (v.getD j default).Text.size ≤ 100
            exact Tm.few_step hf2 (by omega) rfl hx1 rfl (by omega)
        · show ((v.length : Int) - (i + 1)).toNat < ((v.length : Int) - i).toNat
          omega
    · skip
      refine V.go [.k (pp ((G1 0).b) 0),
        .ld 0 0 false (fun _ => [vs.v]),
        .ln (kf false (.f 0) v (fun _ => vs)),
        .k (iv most),
        .k (bv (decide ((v.length : Int) ≤ most))),
        .k (bv (decide ((v.length : Int) ≤ most)))] (fun _ _ => by kernel_rfl) fun _ _ G7 => ?_
      intro S7 t7
      have e0 : (decide ((v.length : Int) ≤ most)) = decide (Tm.fewP v most) := by
        exact Tm.few_end (k := i) (n := (v.length : Int)) hf2 (by omega) (by omega) rfl rfl
      exact V.ret [0] [] [] [] [] [] (bv (decide ((v.length : Int) ≤ most))) (fun _ _ => by kernel_rfl) (fun _ _ => (Eq.trans (by kernel_rfl) (cong1 (fun (x0 : Bool) => (bv x0 : Value)) e0)).trans (by kernel_rfl)) (fun _ _ => trivial)

set_option maxRecDepth 10000 in
theorem same_ct (a : List DThing) (as_ : SV) (b : List DThing) (bs : SV) :
    Cp Try.prog 18 #[as_.v, bs.v] [fs true a as_, fs true b bs] (bv (decide (a = b))) := by
  refine V.fn mo Try.func18 26 0 (by kernel_rfl) fun w H ε k0 => ?_
  obtain ⟨⟨kl1, -⟩, ⟨kl2, -⟩, -⟩ : Lq a as_.v ∧ Lq b bs.v ∧ True := kn k0 (by kernel_rfl)
  clear k0
  refine V.go [.k (bv false)] (fun _ _ => by kernel_rfl) fun _ _ G1 => ?_
  intro S1 t1
  refine V.go [.k (as_.v),
    .ln (kf false (.f 0) a (fun _ => as_)),
    .k (bs.v),
    .ln (kf false (.f 1) b (fun _ => bs)),
    .k (bv (!(decide ((a.length : Int) = (b.length : Int)))))] (fun _ _ => by kernel_rfl) fun _ _ G2 => ?_
  intro S2 t2
  refine V.cond (b := !(decide ((a.length : Int) = (b.length : Int)))) (iNT iDF) (iNF iDT) (by kernel_rfl) (fun q1 => ?_) (fun q2 => ?_)
  · skip
    refine V.go [.k (bv false)] (fun _ _ => by kernel_rfl) fun _ _ G3 => ?_
    intro S3 t3
    have e0 : false = decide (a = b) := by
      exact Tm.same_no_len rfl rfl q1
    exact V.ret [0] [] [] [] [] [] (bv false) (fun _ _ => by kernel_rfl) (fun _ _ => (Eq.trans (by kernel_rfl) (cong1 (fun (x0 : Bool) => (bv x0 : Value)) e0)).trans (by kernel_rfl)) (fun _ _ => trivial)
  · skip
    refine V.go [.k (iv 0)] (fun _ _ => by kernel_rfl) fun _ _ G4 => ?_
    intro S4 t4
    refine V.loop (γ := Int) (fun i => ⟨[(0, as_.v), (1, bs.v), (5, iv i)], [fs false a as_, fs false b bs], []⟩) (fun i => (0 ≤ i) ∧ (i ≤ (a.length : Int)) ∧ (∀ j, j < i.toNat → a.getD j default = b.getD j default)) (fun i => ((a.length : Int) - i).toNat) 0 (by kernel_rfl) [0, 1] (by kernel_rfl) ?_ ?_
    · skip
      refine ⟨?_, ?_, ?_⟩
      · show 0 ≤ (0 : Int)
        first | omega | rfl | (simp; done) | (subst_vars; simp; done)
      · show (0 : Int) ≤ (a.length : Int)
        first | omega | rfl | (simp; done) | (subst_vars; simp; done)
      · show ∀ j, j < (0 : Int).toNat → a.getD j default = b.getD j default
        intro j hj; simp at hj
    · rintro i hF1 kw5 Z1 hZ1
      have hF1 : (0 ≤ i) ∧ (i ≤ (a.length : Int)) ∧ (∀ j, j < i.toNat → a.getD j default = b.getD j default) := hF1
      obtain ⟨hf1, hf2, hf3⟩ := hF1
      clear kw5
      refine V.go [.k (iv i),
        .k (as_.v),
        .ln (kf false (.f 0) a (fun _ => as_)),
        .k (bv (decide (i < (a.length : Int))))] (fun _ _ => by kernel_rfl) fun _ _ G5 => ?_
      intro S5 t5
      refine V.cond (b := decide (i < (a.length : Int))) iDT iDF (by kernel_rfl) (fun q3 => ?_) (fun q4 => ?_)
      · skip
        refine nm (a.getD i.toNat default : DThing) fun x1 hx1 => ?_
        refine nm (b.getD i.toNat default : DThing) fun x2 hx2 => ?_
        refine V.go [.k (as_.v),
          .k (iv i),
          .ix g0 (kf false (.f 0) a (fun _ => as_)) i (fun _ => ⟨by omega, by omega⟩),
          .le g0 (kf false (.f 0) a (fun _ => as_)) i none false x1 hx1 (fun _ => ⟨by omega, by omega⟩) true (fun _ => Dat.cells x1),
          .k (bs.v),
          .k (iv i),
          .ix g0 (kf false (.f 1) b (fun _ => bs)) i (fun _ => ⟨by omega, by omega⟩),
          .le g0 (kf false (.f 1) b (fun _ => bs)) i none false x2 hx2 (fun _ => ⟨by omega, by omega⟩) true (fun _ => Dat.cells x2),
          .aeq true 44 (ca x1) (ca x2) _ fun w => thing_equal w x1.Text x1.Value x1.Blind x1.Left x1.Right x2.Text x2.Value x2.Blind x2.Left x2.Right] (fun _ _ => by kernel_rfl) fun _ _ G6 => ?_
        intro S6 t6
        refine V.cond (b := !(decide (x1.Text = x2.Text ∧ x1.Value = x2.Value ∧ x1.Blind = x2.Blind ∧ x1.Left = x2.Left ∧ x1.Right = x2.Right))) (iNT iDF) (iNF iDT) (by kernel_rfl) (fun q5 => ?_) (fun q6 => ?_)
        · skip
          refine V.go [.k (bv false)] (fun _ _ => by kernel_rfl) fun _ _ G7 => ?_
          intro S7 t7
          have e0 : false = decide (a = b) := by
            exact Tm.same_no (k := i) hx1 hx2 (fun e => q5 ((Tm.thing_ext _ _).1 e))
          exact V.ret [0] [] [] [] [] [] (bv false) (fun _ _ => by kernel_rfl) (fun _ _ => (Eq.trans (by kernel_rfl) (cong1 (fun (x0 : Bool) => (bv x0 : Value)) e0)).trans (by kernel_rfl)) (fun _ _ => trivial)
        · skip
          refine V.go [.k (iv i),
            .a (i + 1) (by omega) (by omega),
            .k (iv (i + 1))] (fun _ _ => by kernel_rfl) fun _ _ G8 => ?_
          intro S8 t8
          refine V.rnd hZ1 (i + 1) [0, 1] (by kernel_rfl) ?_ ?_
          · skip
            refine ⟨?_, ?_, ?_⟩
            · show 0 ≤ (i + 1)
              first | omega | rfl | (simp; done) | (subst_vars; simp; done)
            · show (i + 1) ≤ (a.length : Int)
              first | omega | rfl | (simp; done) | (subst_vars; simp; done)
            · show ∀ j, j < (i + 1).toNat → a.getD j default = b.getD j default
              exact Tm.same_step hf3 (by omega) rfl hx1 hx2 ((Tm.thing_ext _ _).2 q6)
          · show ((a.length : Int) - (i + 1)).toNat < ((a.length : Int) - i).toNat
            omega
      · skip
        refine V.go [.k (bv true)] (fun _ _ => by kernel_rfl) fun _ _ G9 => ?_
        intro S9 t9
        have e0 : true = decide (a = b) := by
          exact Tm.same_yes (k := i) hf3 (by omega) (by omega)
        exact V.ret [0] [] [] [] [] [] (bv true) (fun _ _ => by kernel_rfl) (fun _ _ => (Eq.trans (by kernel_rfl) (cong1 (fun (x0 : Bool) => (bv x0 : Value)) e0)).trans (by kernel_rfl)) (fun _ _ => trivial)

set_option maxRecDepth 10000 in
theorem samei_ct (a : List Int) (as_ : SV) (b : List Int) (bs : SV) :
    Cp Try.prog 19 #[as_.v, bs.v] [fs true a as_, fs true b bs] (bv (decide (a = b))) := by
  refine V.fn mo Try.func19 26 0 (by kernel_rfl) fun w H ε k0 => ?_
  obtain ⟨⟨kl1, -⟩, ⟨kl2, -⟩, -⟩ : Lq a as_.v ∧ Lq b bs.v ∧ True := kn k0 (by kernel_rfl)
  clear k0
  refine V.go [.k (bv false)] (fun _ _ => by kernel_rfl) fun _ _ G1 => ?_
  intro S1 t1
  refine V.go [.k (as_.v),
    .ln (kf false (.f 0) a (fun _ => as_)),
    .k (bs.v),
    .ln (kf false (.f 1) b (fun _ => bs)),
    .k (bv (!(decide ((a.length : Int) = (b.length : Int)))))] (fun _ _ => by kernel_rfl) fun _ _ G2 => ?_
  intro S2 t2
  refine V.cond (b := !(decide ((a.length : Int) = (b.length : Int)))) (iNT iDF) (iNF iDT) (by kernel_rfl) (fun q1 => ?_) (fun q2 => ?_)
  · skip
    refine V.go [.k (bv false)] (fun _ _ => by kernel_rfl) fun _ _ G3 => ?_
    intro S3 t3
    have e0 : false = decide (a = b) := by
      exact Tm.same_no_len rfl rfl q1
    exact V.ret [0] [] [] [] [] [] (bv false) (fun _ _ => by kernel_rfl) (fun _ _ => (Eq.trans (by kernel_rfl) (cong1 (fun (x0 : Bool) => (bv x0 : Value)) e0)).trans (by kernel_rfl)) (fun _ _ => trivial)
  · skip
    refine V.go [.k (iv 0)] (fun _ _ => by kernel_rfl) fun _ _ G4 => ?_
    intro S4 t4
    refine V.loop (γ := Int) (fun i => ⟨[(0, as_.v), (1, bs.v), (5, iv i)], [fs false a as_, fs false b bs], []⟩) (fun i => (0 ≤ i) ∧ (i ≤ (a.length : Int)) ∧ (∀ j, j < i.toNat → a.getD j default = b.getD j default)) (fun i => ((a.length : Int) - i).toNat) 0 (by kernel_rfl) [0, 1] (by kernel_rfl) ?_ ?_
    · skip
      refine ⟨?_, ?_, ?_⟩
      · show 0 ≤ (0 : Int)
        first | omega | rfl | (simp; done) | (subst_vars; simp; done)
      · show (0 : Int) ≤ (a.length : Int)
        first | omega | rfl | (simp; done) | (subst_vars; simp; done)
      · show ∀ j, j < (0 : Int).toNat → a.getD j default = b.getD j default
        intro j hj; simp at hj
    · rintro i hF1 kw5 Z1 hZ1
      have hF1 : (0 ≤ i) ∧ (i ≤ (a.length : Int)) ∧ (∀ j, j < i.toNat → a.getD j default = b.getD j default) := hF1
      obtain ⟨hf1, hf2, hf3⟩ := hF1
      clear kw5
      refine V.go [.k (iv i),
        .k (as_.v),
        .ln (kf false (.f 0) a (fun _ => as_)),
        .k (bv (decide (i < (a.length : Int))))] (fun _ _ => by kernel_rfl) fun _ _ G5 => ?_
      intro S5 t5
      refine V.cond (b := decide (i < (a.length : Int))) iDT iDF (by kernel_rfl) (fun q3 => ?_) (fun q4 => ?_)
      · skip
        refine nm (a.getD i.toNat default : Int) fun v1 hv1 => ?_
        refine nm (b.getD i.toNat default : Int) fun v2 hv2 => ?_
        refine V.go [.k (as_.v),
          .k (iv i),
          .ix g0 (kf false (.f 0) a (fun _ => as_)) i (fun _ => ⟨by omega, by omega⟩),
          .le g0 (kf false (.f 0) a (fun _ => as_)) i none false v1 hv1 (fun _ => ⟨by omega, by omega⟩) false (fun _ => [iv v1]),
          .k (bs.v),
          .k (iv i),
          .ix g0 (kf false (.f 1) b (fun _ => bs)) i (fun _ => ⟨by omega, by omega⟩),
          .le g0 (kf false (.f 1) b (fun _ => bs)) i none false v2 hv2 (fun _ => ⟨by omega, by omega⟩) false (fun _ => [iv v2]),
          .k (bv (!(decide (v1 = v2))))] (fun _ _ => by kernel_rfl) fun _ _ G6 => ?_
        intro S6 t6
        refine V.cond (b := !(decide (v1 = v2))) (iNT iDF) (iNF iDT) (by kernel_rfl) (fun q5 => ?_) (fun q6 => ?_)
        · skip
          refine V.go [.k (bv false)] (fun _ _ => by kernel_rfl) fun _ _ G7 => ?_
          intro S7 t7
          have e0 : false = decide (a = b) := by
            exact Tm.same_no (k := i) hv1 hv2 q5
          exact V.ret [0] [] [] [] [] [] (bv false) (fun _ _ => by kernel_rfl) (fun _ _ => (Eq.trans (by kernel_rfl) (cong1 (fun (x0 : Bool) => (bv x0 : Value)) e0)).trans (by kernel_rfl)) (fun _ _ => trivial)
        · skip
          refine V.go [.k (iv i),
            .a (i + 1) (by omega) (by omega),
            .k (iv (i + 1))] (fun _ _ => by kernel_rfl) fun _ _ G8 => ?_
          intro S8 t8
          refine V.rnd hZ1 (i + 1) [0, 1] (by kernel_rfl) ?_ ?_
          · skip
            refine ⟨?_, ?_, ?_⟩
            · show 0 ≤ (i + 1)
              first | omega | rfl | (simp; done) | (subst_vars; simp; done)
            · show (i + 1) ≤ (a.length : Int)
              first | omega | rfl | (simp; done) | (subst_vars; simp; done)
            · show ∀ j, j < (i + 1).toNat → a.getD j default = b.getD j default
              exact Tm.same_step hf3 (by omega) rfl hv1 hv2 q6
          · show ((a.length : Int) - (i + 1)).toNat < ((a.length : Int) - i).toNat
            omega
      · skip
        refine V.go [.k (bv true)] (fun _ _ => by kernel_rfl) fun _ _ G9 => ?_
        intro S9 t9
        have e0 : true = decide (a = b) := by
          exact Tm.same_yes (k := i) hf3 (by omega) (by omega)
        exact V.ret [0] [] [] [] [] [] (bv true) (fun _ _ => by kernel_rfl) (fun _ _ => (Eq.trans (by kernel_rfl) (cong1 (fun (x0 : Bool) => (bv x0 : Value)) e0)).trans (by kernel_rfl)) (fun _ _ => trivial)

set_option maxRecDepth 10000 in
theorem fews_ct (texts : List ByteArray) (textss : SV) (most : Int) :
    Cp Try.prog 15 #[textss.v, iv most] [fs true texts textss] (bv (decide (Tm.fewS texts most))) := by
  refine V.fn mo Try.func15 43 0 (by kernel_rfl) fun w H ε k0 => ?_
  obtain ⟨⟨kl1, -⟩, -⟩ : Lq texts textss.v ∧ True := kn k0 (by kernel_rfl)
  clear k0
  refine V.go [.k (bv false)] (fun _ _ => by kernel_rfl) fun _ _ G1 => ?_
  intro S1 t1
  refine V.go [.k (iv 0)] (fun _ _ => by kernel_rfl) fun _ _ G2 => ?_
  intro S2 t2
  refine V.loop (γ := Int) (fun i => ⟨[(0, textss.v), (1, iv most), (5, iv i)], [fs false texts textss], []⟩) (fun i => (0 ≤ i) ∧ (∀ j, j < i.toNat → ¬ Tm.longT (texts.getD j default).size)) (fun i => ((texts.length : Int) - i).toNat) 0 (by kernel_rfl) [0] (by kernel_rfl) ?_ ?_
  · skip
    refine ⟨?_, ?_⟩
    · show 0 ≤ (0 : Int)
      first | omega | rfl | (simp; done) | (subst_vars; simp; done)
    · show ∀ j, j < (0 : Int).toNat → ¬ Tm.longT (texts.getD j default).size
      intro j hj; simp at hj
  · rintro i hF1 kw3 Z1 hZ1
    have hF1 : (0 ≤ i) ∧ (∀ j, j < i.toNat → ¬ Tm.longT (texts.getD j default).size) := hF1
    obtain ⟨hf1, hf2⟩ := hF1
    clear kw3
    refine nm ((decide (i < (texts.length : Int))) && (decide (i ≤ most)) : Bool) fun p1 hp1 => ?_
    refine V.go [.k (iv i),
      .k (textss.v),
      .ln (kf false (.f 0) texts (fun _ => textss)),
      .k (bv (decide (i < (texts.length : Int)))),
      .k (bv (decide (i < (texts.length : Int)))),
      .k (iv i),
      .k (iv most),
      .k (bv (decide (i ≤ most))),
      .andn g0 false (decide (i < (texts.length : Int))) (decide (i ≤ most)) p1 hp1] (fun _ _ => by kernel_rfl) fun _ _ G3 => ?_
    intro S3 t3
    refine V.cond (b := p1) (iN hp1 (iAT iDT iDT)) (iN hp1 (iAF iDF iDF)) (by kernel_rfl) (fun q1 => ?_) (fun q2 => ?_)
    · skip
      refine nm (texts.getD i.toNat default : ByteArray) fun x1 hx1 => ?_
      refine nm ((decide ((x1.size : Int) ≤ 8000)) || (decide (8100 < (x1.size : Int))) : Bool) fun p2 hp2 => ?_
      refine V.go [.k (textss.v),
        .k (iv i),
        .ix g0 (kf false (.f 0) texts (fun _ => textss)) i (fun _ => ⟨by omega, by omega⟩),
        .le g0 (kf false (.f 0) texts (fun _ => textss)) i none false x1 hx1 (fun _ => ⟨by omega, by omega⟩) false (fun _ => [tv x1]),
        .k (iv (x1.size : Int)),
        .k (bv (decide (100 < (x1.size : Int)))),
        .k (bv (decide (100 < (x1.size : Int)))),
        .k (textss.v),
        .k (iv i),
        .ix (gT (b := decide (100 < (x1.size : Int))) iDT) (kf false (.f 0) texts (fun _ => textss)) i (fun hg => ⟨by omega, by omega⟩),
        .le (gT (b := decide (100 < (x1.size : Int))) iDT) (kf false (.f 0) texts (fun _ => textss)) i none false x1 hx1 (fun hg => ⟨by omega, by omega⟩) false (fun _ => [tv x1]),
        .k (iv (x1.size : Int)),
        .k (bv (decide ((x1.size : Int) ≤ 8000))),
        .k (bv (decide ((x1.size : Int) ≤ 8000))),
        .k (textss.v),
        .k (iv i),
        .ix ((gT (b := decide (100 < (x1.size : Int))) iDT).F (b := decide ((x1.size : Int) ≤ 8000)) iDF) (kf false (.f 0) texts (fun _ => textss)) i (fun hg => ⟨by omega, by omega⟩),
        .le ((gT (b := decide (100 < (x1.size : Int))) iDT).F (b := decide ((x1.size : Int) ≤ 8000)) iDF) (kf false (.f 0) texts (fun _ => textss)) i none false x1 hx1 (fun hg => ⟨by omega, by omega⟩) false (fun _ => [tv x1]),
        .k (iv (x1.size : Int)),
        .k (bv (decide (8100 < (x1.size : Int)))),
        .orn (gT (b := decide (100 < (x1.size : Int))) iDT) false (decide ((x1.size : Int) ≤ 8000)) (decide (8100 < (x1.size : Int))) p2 hp2,
        .and g0 false (decide (100 < (x1.size : Int))) p2] (fun _ _ => by kernel_rfl) fun _ _ G4 => ?_
      intro S4 t4
      refine V.cond (b := (decide (100 < (x1.size : Int))) && p2) (iAT iDT (iN hp2 (iOT iDT iDT))) (iAF iDF (iN hp2 (iOF iDF iDF))) (by kernel_rfl) (fun q3 => ?_) (fun q4 => ?_)
      · skip
        refine V.go [.k (bv false)] (fun _ _ => by kernel_rfl) fun _ _ G5 => ?_
        intro S5 t5
        have e0 : false = decide (Tm.fewS texts most) := by
          exact Tm.fewS_no (k := i) (by omega) (by omega) (by omega) hx1 rfl q3
        exact V.ret [0] [] [] [] [] [] (bv false) (fun _ _ => by kernel_rfl) (fun _ _ => (Eq.trans (by kernel_rfl) (cong1 (fun (x0 : Bool) => (bv x0 : Value)) e0)).trans (by kernel_rfl)) (fun _ _ => trivial)
      · skip
        refine V.go [.k (iv i),
          .a (i + 1) (by omega) (by omega),
          .k (iv (i + 1))] (fun _ _ => by kernel_rfl) fun _ _ G6 => ?_
        intro S6 t6
        refine V.rnd hZ1 (i + 1) [0] (by kernel_rfl) ?_ ?_
        · skip
          refine ⟨?_, ?_⟩
          · show 0 ≤ (i + 1)
            omega
          · show ∀ j, j < (i + 1).toNat → ¬ Tm.longT (texts.getD j default).size
            exact Tm.fewS_step hf2 (by omega) rfl hx1 rfl q4
        · show ((texts.length : Int) - (i + 1)).toNat < ((texts.length : Int) - i).toNat
          omega
    · skip
      refine V.go [.k (textss.v),
        .ln (kf false (.f 0) texts (fun _ => textss)),
        .k (iv most),
        .k (bv (decide ((texts.length : Int) ≤ most))),
        .k (bv (decide ((texts.length : Int) ≤ most)))] (fun _ _ => by kernel_rfl) fun _ _ G7 => ?_
      intro S7 t7
      have e0 : (decide ((texts.length : Int) ≤ most)) = decide (Tm.fewS texts most) := by
        exact Tm.fewS_end (k := i) (n := (texts.length : Int)) hf2 (by omega) (by omega) rfl rfl
      exact V.ret [0] [] [] [] [] [] (bv (decide ((texts.length : Int) ≤ most))) (fun _ _ => by kernel_rfl) (fun _ _ => (Eq.trans (by kernel_rfl) (cong1 (fun (x0 : Bool) => (bv x0 : Value)) e0)).trans (by kernel_rfl)) (fun _ _ => trivial)

set_option maxRecDepth 10000 in
theorem has49_ct (l : List Int) (ls : SV) (n : Int) :
    Cp Try.prog 40 #[ls.v, iv n] [fs true l ls] (bv (decide (n ∈ l))) := by
  refine V.fn mo Try.func40 18 0 (by kernel_rfl) fun w H ε k0 => ?_
  obtain ⟨⟨kl1, -⟩, -⟩ : Lq l ls.v ∧ True := kn k0 (by kernel_rfl)
  clear k0
  refine V.go [.k (bv false)] (fun _ _ => by kernel_rfl) fun _ _ G1 => ?_
  intro S1 t1
  refine V.go [.k (iv 0)] (fun _ _ => by kernel_rfl) fun _ _ G2 => ?_
  intro S2 t2
  refine V.loop (γ := Int) (fun i => ⟨[(0, ls.v), (1, iv n), (5, iv i)], [fs false l ls], []⟩) (fun i => (0 ≤ i) ∧ (i ≤ (l.length : Int)) ∧ (∀ j, j < i.toNat → l.getD j default ≠ n)) (fun i => ((l.length : Int) - i).toNat) 0 (by kernel_rfl) [0] (by kernel_rfl) ?_ ?_
  · skip
    refine ⟨?_, ?_, ?_⟩
    · show 0 ≤ (0 : Int)
      first | omega | rfl | (simp; done) | (subst_vars; simp; done)
    · show (0 : Int) ≤ (l.length : Int)
      first | omega | rfl | (simp; done) | (subst_vars; simp; done)
    · show ∀ j, j < (0 : Int).toNat → l.getD j default ≠ n
      intro j hj; simp at hj
  · rintro i hF1 kw3 Z1 hZ1
    have hF1 : (0 ≤ i) ∧ (i ≤ (l.length : Int)) ∧ (∀ j, j < i.toNat → l.getD j default ≠ n) := hF1
    obtain ⟨hf1, hf2, hf3⟩ := hF1
    clear kw3
    refine V.go [.k (iv i),
      .k (ls.v),
      .ln (kf false (.f 0) l (fun _ => ls)),
      .k (bv (decide (i < (l.length : Int))))] (fun _ _ => by kernel_rfl) fun _ _ G3 => ?_
    intro S3 t3
    refine V.cond (b := decide (i < (l.length : Int))) iDT iDF (by kernel_rfl) (fun q1 => ?_) (fun q2 => ?_)
    · skip
      refine nm (l.getD i.toNat default : Int) fun v1 hv1 => ?_
      refine V.go [.k (ls.v),
        .k (iv i),
        .ix g0 (kf false (.f 0) l (fun _ => ls)) i (fun _ => ⟨by omega, by omega⟩),
        .le g0 (kf false (.f 0) l (fun _ => ls)) i none false v1 hv1 (fun _ => ⟨by omega, by omega⟩) false (fun _ => [iv v1]),
        .k (iv n),
        .k (bv (decide (v1 = n)))] (fun _ _ => by kernel_rfl) fun _ _ G4 => ?_
      intro S4 t4
      refine V.cond (b := decide (v1 = n)) iDT iDF (by kernel_rfl) (fun q3 => ?_) (fun q4 => ?_)
      · skip
        refine V.go [.k (bv true)] (fun _ _ => by kernel_rfl) fun _ _ G5 => ?_
        intro S5 t5
        have e0 : true = decide (n ∈ l) := by
          symm; rw [decide_eq_true_iff, ← q3, hv1]; exact getD_mem (by omega) rfl
        exact V.ret [0] [] [] [] [] [] (bv true) (fun _ _ => by kernel_rfl) (fun _ _ => (Eq.trans (by kernel_rfl) (cong1 (fun (x0 : Bool) => (bv x0 : Value)) e0)).trans (by kernel_rfl)) (fun _ _ => trivial)
      · skip
        refine V.go [.k (iv i),
          .a (i + 1) (by omega) (by omega),
          .k (iv (i + 1))] (fun _ _ => by kernel_rfl) fun _ _ G6 => ?_
        intro S6 t6
        refine V.rnd hZ1 (i + 1) [0] (by kernel_rfl) ?_ ?_
        · skip
          refine ⟨?_, ?_, ?_⟩
          · show 0 ≤ (i + 1)
            first | omega | rfl | (simp; done) | (subst_vars; simp; done)
          · show (i + 1) ≤ (l.length : Int)
            first | omega | rfl | (simp; done) | (subst_vars; simp; done)
          · show ∀ j, j < (i + 1).toNat → l.getD j default ≠ n
            intro j hj; by_cases e : j < i.toNat
            · exact hf3 j e
            · rw [show j = i.toNat by omega, ← hv1]; exact q4
        · show ((l.length : Int) - (i + 1)).toNat < ((l.length : Int) - i).toNat
          omega
    · skip
      refine V.go [.k (bv false)] (fun _ _ => by kernel_rfl) fun _ _ G7 => ?_
      intro S7 t7
      have e0 : false = decide (n ∈ l) := by
        symm; rw [decide_eq_false_iff_not]; intro h; obtain ⟨j, hj, e⟩ := List.getElem_of_mem h; refine hf3 j (by omega) ?_; simp [List.getD_eq_getElem?_getD, hj, e]
      exact V.ret [0] [] [] [] [] [] (bv false) (fun _ _ => by kernel_rfl) (fun _ _ => (Eq.trans (by kernel_rfl) (cong1 (fun (x0 : Bool) => (bv x0 : Value)) e0)).trans (by kernel_rfl)) (fun _ _ => trivial)

set_option maxRecDepth 10000 in
theorem same49_ct (paths : List (Fat Int)) (pathss : SV) (seen : List (Fat DThing)) (seens : SV) (others : List (Fat Int)) (otherss : SV) (shown : List (Fat DThing)) (showns : SV) :
    Cp Try.prog 34 #[pathss.v, seens.v, otherss.v, showns.v] [fs true paths pathss, fs true seen seens, fs true others otherss, fs true shown showns] (bv (decide (Rv.ls paths = Rv.ls others ∧ Rv.ls seen = Rv.ls shown))) := by
  refine V.fn mo Try.func34 55 0 (by kernel_rfl) fun w H ε k0 => ?_
  obtain ⟨⟨kl1, -⟩, ⟨kl2, -⟩, ⟨kl3, -⟩, ⟨kl4, -⟩, -⟩ : Lq paths pathss.v ∧ Lq seen seens.v ∧ Lq others otherss.v ∧ Lq shown showns.v ∧ True := kn k0 (by kernel_rfl)
  clear k0
  refine V.go [.k (bv false)] (fun _ _ => by kernel_rfl) fun _ _ G1 => ?_
  intro S1 t1
  refine nm ((!(decide ((paths.length : Int) = (others.length : Int)))) || (!(decide ((seen.length : Int) = (shown.length : Int)))) : Bool) fun p1 hp1 => ?_
  refine V.go [.k (pathss.v),
    .ln (kf false (.f 0) paths (fun _ => pathss)),
    .k (otherss.v),
    .ln (kf false (.f 2) others (fun _ => otherss)),
    .k (bv (!(decide ((paths.length : Int) = (others.length : Int))))),
    .k (bv (!(decide ((paths.length : Int) = (others.length : Int))))),
    .k (seens.v),
    .ln (kf false (.f 1) seen (fun _ => seens)),
    .k (showns.v),
    .ln (kf false (.f 3) shown (fun _ => showns)),
    .k (bv (!(decide ((seen.length : Int) = (shown.length : Int))))),
    .orn g0 false (!(decide ((paths.length : Int) = (others.length : Int)))) (!(decide ((seen.length : Int) = (shown.length : Int)))) p1 hp1] (fun _ _ => by kernel_rfl) fun _ _ G2 => ?_
  intro S2 t2
  refine V.cond (b := p1) (iN hp1 (iOT (iNT iDF) (iNT iDF))) (iN hp1 (iOF (iNF iDT) (iNF iDT))) (by kernel_rfl) (fun q1 => ?_) (fun q2 => ?_)
  · skip
    refine V.go [.k (bv false)] (fun _ _ => by kernel_rfl) fun _ _ G3 => ?_
    intro S3 t3
    have e0 : false = decide (Rv.ls paths = Rv.ls others ∧ Rv.ls seen = Rv.ls shown) := by
      symm; rw [decide_eq_false_iff_not]; rintro ⟨h1, h2⟩
      have h3 := congrArg List.length h1; have h4 := congrArg List.length h2; simp only [Rv.ls_length] at h3 h4; omega
    exact V.ret [0] [] [] [] [] [] (bv false) (fun _ _ => by kernel_rfl) (fun _ _ => (Eq.trans (by kernel_rfl) (cong1 (fun (x0 : Bool) => (bv x0 : Value)) e0)).trans (by kernel_rfl)) (fun _ _ => trivial)
  · skip
    refine V.go [.k (iv 0)] (fun _ _ => by kernel_rfl) fun _ _ G4 => ?_
    intro S4 t4
    refine V.loop (γ := Int) (fun i => ⟨[(0, pathss.v), (1, seens.v), (2, otherss.v), (3, showns.v), (9, iv i)], [fs false paths pathss, fs false seen seens, fs false others otherss, fs false shown showns], []⟩) (fun i => (0 ≤ i) ∧ (i ≤ (paths.length : Int)) ∧ (∀ j, j < i.toNat → (paths.getD j default).l = (others.getD j default).l)) (fun i => ((paths.length : Int) - i).toNat) 0 (by kernel_rfl) [0, 1, 2, 3] (by kernel_rfl) ?_ ?_
    · skip
      refine ⟨?_, ?_, ?_⟩
      · show 0 ≤ (0 : Int)
        first | omega | rfl | (simp; done) | (subst_vars; simp; done)
      · show (0 : Int) ≤ (paths.length : Int)
        first | omega | rfl | (simp; done) | (subst_vars; simp; done)
      · show ∀ j, j < (0 : Int).toNat → (paths.getD j default).l = (others.getD j default).l
        intro j hj; simp at hj
    · rintro i hF1 kw5 Z1 hZ1
      have hF1 : (0 ≤ i) ∧ (i ≤ (paths.length : Int)) ∧ (∀ j, j < i.toNat → (paths.getD j default).l = (others.getD j default).l) := hF1
      obtain ⟨hf1, hf2, hf3⟩ := hF1
      clear kw5
      refine V.go [.k (iv i),
        .k (pathss.v),
        .ln (kf false (.f 0) paths (fun _ => pathss)),
        .k (bv (decide (i < (paths.length : Int))))] (fun _ _ => by kernel_rfl) fun _ _ G5 => ?_
      intro S5 t5
      refine V.cond (b := decide (i < (paths.length : Int))) iDT iDF (by kernel_rfl) (fun q3 => ?_) (fun q4 => ?_)
      · skip
        refine nm (paths.getD i.toNat default : Fat Int) fun x1 hx1 => ?_
        refine nm (others.getD i.toNat default : Fat Int) fun x2 hx2 => ?_
        refine V.reg [.k (pathss.v),
          .k (iv i),
          .ix g0 (kf false (.f 0) paths (fun _ => pathss)) i (fun _ => ⟨by omega, by omega⟩),
          .le g0 (kf false (.f 0) paths (fun _ => pathss)) i none true x1 hx1 (fun _ => ⟨by omega, by omega⟩) false (fun _ => [x1.s.v]),
          .k (otherss.v),
          .k (iv i),
          .ix g0 (kf false (.f 2) others (fun _ => otherss)) i (fun _ => ⟨by omega, by omega⟩),
          .le g0 (kf false (.f 2) others (fun _ => otherss)) i none true x2 hx2 (fun _ => ⟨by omega, by omega⟩) false (fun _ => [x2.s.v]),
          .cp g0 8 19 [(kx false (.g 3 0) x1 x1.l (fun _ => x1.s) (fun _ _ h => h)).a, (kx false (.g 7 0) x2 x2.l (fun _ => x2.s) (fun _ _ h => h)).a] (fun _ G => samei_ct x1.l x1.s x2.l x2.s),
          .k (bv (!(decide (x1.l = x2.l))))] (fun _ _ => by kernel_rfl) fun _ _ G6 kw7 => ?_
        intro S6 t6
        obtain ⟨⟨kl5, -⟩, ⟨kl6, -⟩, -⟩ : Lq x1.l x1.s.v ∧ Lq x2.l x2.s.v ∧ True := kn kw7 (by kernel_rfl)
        clear kw7
        refine V.cond (b := !(decide (x1.l = x2.l))) (iNT iDF) (iNF iDT) (by kernel_rfl) (fun q5 => ?_) (fun q6 => ?_)
        · skip
          refine V.go [.k (bv false)] (fun _ _ => by kernel_rfl) fun _ _ G7 => ?_
          intro S7 t7
          have e0 : false = decide (Rv.ls paths = Rv.ls others ∧ Rv.ls seen = Rv.ls shown) := by
            symm; rw [decide_eq_false_iff_not]; rintro ⟨h1, h2⟩
            exact Rv.ls_ne hx1 hx2 q5 h1
          exact V.ret [0] [] [] [] [] [] (bv false) (fun _ _ => by kernel_rfl) (fun _ _ => (Eq.trans (by kernel_rfl) (cong1 (fun (x0 : Bool) => (bv x0 : Value)) e0)).trans (by kernel_rfl)) (fun _ _ => trivial)
        · skip
          refine V.go [.k (iv i),
            .a (i + 1) (by omega) (by omega),
            .k (iv (i + 1))] (fun _ _ => by kernel_rfl) fun _ _ G8 => ?_
          intro S8 t8
          refine V.rnd hZ1 (i + 1) [0, 1, 2, 3] (by kernel_rfl) ?_ ?_
          · skip
            refine ⟨?_, ?_, ?_⟩
            · show 0 ≤ (i + 1)
              first | omega | rfl | (simp; done) | (subst_vars; simp; done)
            · show (i + 1) ≤ (paths.length : Int)
              first | omega | rfl | (simp; done) | (subst_vars; simp; done)
            · show ∀ j, j < (i + 1).toNat → (paths.getD j default).l = (others.getD j default).l
              exact Rv.ls_step hf3 (by omega) hx1 hx2 q6
          · show ((paths.length : Int) - (i + 1)).toNat < ((paths.length : Int) - i).toNat
            omega
      · skip
        refine V.go [.k (iv 0)] (fun _ _ => by kernel_rfl) fun _ _ G9 => ?_
        intro S9 t9
        refine V.loop (γ := Int) (fun i_1 => ⟨[(1, seens.v), (3, showns.v), (10, iv i_1)], [fs false seen seens, fs false shown showns], []⟩) (fun i_1 => (0 ≤ i_1) ∧ (i_1 ≤ (seen.length : Int)) ∧ (∀ j, j < i_1.toNat → (seen.getD j default).l = (shown.getD j default).l)) (fun i_1 => ((seen.length : Int) - i_1).toNat) 0 (by kernel_rfl) [1, 3] (by kernel_rfl) ?_ ?_
        · skip
          refine ⟨?_, ?_, ?_⟩
          · show 0 ≤ (0 : Int)
            first | omega | rfl | (simp; done) | (subst_vars; simp; done)
          · show (0 : Int) ≤ (seen.length : Int)
            first | omega | rfl | (simp; done) | (subst_vars; simp; done)
          · show ∀ j, j < (0 : Int).toNat → (seen.getD j default).l = (shown.getD j default).l
            intro j hj; simp at hj
        · rintro i_1 hF2 kw11 Z2 hZ2
          have hF2 : (0 ≤ i_1) ∧ (i_1 ≤ (seen.length : Int)) ∧ (∀ j, j < i_1.toNat → (seen.getD j default).l = (shown.getD j default).l) := hF2
          obtain ⟨hf4, hf5, hf6⟩ := hF2
          clear kw11
          refine V.go [.k (iv i_1),
            .k (seens.v),
            .ln (kf false (.f 0) seen (fun _ => seens)),
            .k (bv (decide (i_1 < (seen.length : Int))))] (fun _ _ => by kernel_rfl) fun _ _ G10 => ?_
          intro S10 t10
          refine V.cond (b := decide (i_1 < (seen.length : Int))) iDT iDF (by kernel_rfl) (fun q7 => ?_) (fun q8 => ?_)
          · skip
            refine nm (seen.getD i_1.toNat default : Fat DThing) fun x3 hx3 => ?_
            refine nm (shown.getD i_1.toNat default : Fat DThing) fun x4 hx4 => ?_
            refine V.reg [.k (seens.v),
              .k (iv i_1),
              .ix g0 (kf false (.f 0) seen (fun _ => seens)) i_1 (fun _ => ⟨by omega, by omega⟩),
              .le g0 (kf false (.f 0) seen (fun _ => seens)) i_1 none true x3 hx3 (fun _ => ⟨by omega, by omega⟩) false (fun _ => [x3.s.v]),
              .k (showns.v),
              .k (iv i_1),
              .ix g0 (kf false (.f 1) shown (fun _ => showns)) i_1 (fun _ => ⟨by omega, by omega⟩),
              .le g0 (kf false (.f 1) shown (fun _ => showns)) i_1 none true x4 hx4 (fun _ => ⟨by omega, by omega⟩) false (fun _ => [x4.s.v]),
              .cp g0 8 18 [(kx false (.g 3 0) x3 x3.l (fun _ => x3.s) (fun _ _ h => h)).a, (kx false (.g 7 0) x4 x4.l (fun _ => x4.s) (fun _ _ h => h)).a] (fun _ G => same_ct x3.l x3.s x4.l x4.s),
              .k (bv (!(decide (x3.l = x4.l))))] (fun _ _ => by kernel_rfl) fun _ _ G11 kw13 => ?_
            intro S11 t11
            obtain ⟨⟨kl7, -⟩, ⟨kl8, -⟩, -⟩ : Lq x3.l x3.s.v ∧ Lq x4.l x4.s.v ∧ True := kn kw13 (by kernel_rfl)
            clear kw13
            refine V.cond (b := !(decide (x3.l = x4.l))) (iNT iDF) (iNF iDT) (by kernel_rfl) (fun q9 => ?_) (fun q10 => ?_)
            · skip
              refine V.go [.k (bv false)] (fun _ _ => by kernel_rfl) fun _ _ G12 => ?_
              intro S12 t12
              have e0 : false = decide (Rv.ls paths = Rv.ls others ∧ Rv.ls seen = Rv.ls shown) := by
                symm; rw [decide_eq_false_iff_not]; rintro ⟨h1, h2⟩
                exact Rv.ls_ne hx3 hx4 q9 h2
              exact V.ret [0] [] [] [] [] [] (bv false) (fun _ _ => by kernel_rfl) (fun _ _ => (Eq.trans (by kernel_rfl) (cong1 (fun (x0 : Bool) => (bv x0 : Value)) e0)).trans (by kernel_rfl)) (fun _ _ => trivial)
            · skip
              refine V.go [.k (iv i_1),
                .a (i_1 + 1) (by omega) (by omega),
                .k (iv (i_1 + 1))] (fun _ _ => by kernel_rfl) fun _ _ G13 => ?_
              intro S13 t13
              refine V.rnd hZ2 (i_1 + 1) [0, 1] (by kernel_rfl) ?_ ?_
              · skip
                refine ⟨?_, ?_, ?_⟩
                · show 0 ≤ (i_1 + 1)
                  first | omega | rfl | (simp; done) | (subst_vars; simp; done)
                · show (i_1 + 1) ≤ (seen.length : Int)
                  first | omega | rfl | (simp; done) | (subst_vars; simp; done)
                · show ∀ j, j < (i_1 + 1).toNat → (seen.getD j default).l = (shown.getD j default).l
                  exact Rv.ls_step hf6 (by omega) hx3 hx4 q10
              · show ((seen.length : Int) - (i_1 + 1)).toNat < ((seen.length : Int) - i_1).toNat
                omega
          · skip
            refine V.go [.k (bv true)] (fun _ _ => by kernel_rfl) fun _ _ G14 => ?_
            intro S14 t14
            have e0 : true = decide (Rv.ls paths = Rv.ls others ∧ Rv.ls seen = Rv.ls shown) := by
              symm; rw [decide_eq_true_iff]; exact ⟨Rv.ls_eq hf3 (by omega) (by omega), Rv.ls_eq hf6 (by omega) (by omega)⟩
            exact V.ret [0] [] [] [] [] [] (bv true) (fun _ _ => by kernel_rfl) (fun _ _ => (Eq.trans (by kernel_rfl) (cong1 (fun (x0 : Bool) => (bv x0 : Value)) e0)).trans (by kernel_rfl)) (fun _ _ => trivial)

set_option maxRecDepth 10000 in
theorem few49_ct (paths : List (Fat Int)) (pathss : SV) (seen : List (Fat DThing)) (seens : SV) :
    Cp Try.prog 29 #[pathss.v, seens.v] [fs true paths pathss, fs true seen seens] (bv (decide (Rv.fewD (Rv.ls paths) (Rv.ls seen)))) := by
  refine V.fn mo Try.func29 87 0 (by kernel_rfl) fun w H ε k0 => ?_
  obtain ⟨⟨kl1, -⟩, ⟨kl2, -⟩, -⟩ : Lq paths pathss.v ∧ Lq seen seens.v ∧ True := kn k0 (by kernel_rfl)
  clear k0
  refine V.go [.k (bv false)] (fun _ _ => by kernel_rfl) fun _ _ G1 => ?_
  intro S1 t1
  refine V.go [.k (iv 0)] (fun _ _ => by kernel_rfl) fun _ _ G2 => ?_
  intro S2 t2
  refine V.loop (γ := Int) (fun i => ⟨[(0, pathss.v), (1, seens.v), (5, iv i)], [fs false paths pathss, fs false seen seens], []⟩) (fun i => (0 ≤ i) ∧ (∀ j, j < i.toNat → (paths.getD j default).l.length ≤ 10)) (fun i => ((paths.length : Int) - i).toNat) 0 (by kernel_rfl) [0, 1] (by kernel_rfl) ?_ ?_
  · skip
    refine ⟨?_, ?_⟩
    · show 0 ≤ (0 : Int)
      first | omega | rfl | (simp; done) | (subst_vars; simp; done)
    · show ∀ j, j < (0 : Int).toNat → (paths.getD j default).l.length ≤ 10
      intro j hj; simp at hj
  · rintro i hF1 kw3 Z1 hZ1
    have hF1 : (0 ≤ i) ∧ (∀ j, j < i.toNat → (paths.getD j default).l.length ≤ 10) := hF1
    obtain ⟨hf1, hf2⟩ := hF1
    clear kw3
    refine nm ((decide (i < (paths.length : Int))) && (decide (i < 71)) : Bool) fun p1 hp1 => ?_
    refine V.go [.k (iv i),
      .k (pathss.v),
      .ln (kf false (.f 0) paths (fun _ => pathss)),
      .k (bv (decide (i < (paths.length : Int)))),
      .k (bv (decide (i < (paths.length : Int)))),
      .k (iv i),
      .k (bv (decide (i < 71))),
      .andn g0 false (decide (i < (paths.length : Int))) (decide (i < 71)) p1 hp1] (fun _ _ => by kernel_rfl) fun _ _ G3 => ?_
    intro S3 t3
    refine V.cond (b := p1) (iN hp1 (iAT iDT iDT)) (iN hp1 (iAF iDF iDF)) (by kernel_rfl) (fun q1 => ?_) (fun q2 => ?_)
    · skip
      refine nm (paths.getD i.toNat default : Fat Int) fun x1 hx1 => ?_
      refine V.reg [.k (pathss.v),
        .k (iv i),
        .ix g0 (kf false (.f 0) paths (fun _ => pathss)) i (fun _ => ⟨by omega, by omega⟩),
        .le g0 (kf false (.f 0) paths (fun _ => pathss)) i none true x1 hx1 (fun _ => ⟨by omega, by omega⟩) false (fun _ => [x1.s.v]),
        .ln (kx false (.g 3 0) x1 x1.l (fun _ => x1.s) (fun _ _ h => h)),
        .k (bv (decide (10 < (x1.l.length : Int))))] (fun _ _ => by kernel_rfl) fun _ _ G4 kw5 => ?_
      intro S4 t4
      obtain ⟨⟨kl3, -⟩, -⟩ : Lq x1.l x1.s.v ∧ True := kn kw5 (by kernel_rfl)
      clear kw5
      refine V.cond (b := decide (10 < (x1.l.length : Int))) iDT iDF (by kernel_rfl) (fun q3 => ?_) (fun q4 => ?_)
      · skip
        refine V.go [.k (bv false)] (fun _ _ => by kernel_rfl) fun _ _ G5 => ?_
        intro S5 t5
        have e0 : false = decide (Rv.fewD (Rv.ls paths) (Rv.ls seen)) := by
          symm; rw [decide_eq_false_iff_not]
          exact Rv.fewD_no1 (by omega) (by omega) (by omega) hx1 q3
        exact V.ret [0] [] [] [] [] [] (bv false) (fun _ _ => by kernel_rfl) (fun _ _ => (Eq.trans (by kernel_rfl) (cong1 (fun (x0 : Bool) => (bv x0 : Value)) e0)).trans (by kernel_rfl)) (fun _ _ => trivial)
      · skip
        refine V.go [.k (iv i),
          .a (i + 1) (by omega) (by omega),
          .k (iv (i + 1))] (fun _ _ => by kernel_rfl) fun _ _ G6 => ?_
        intro S6 t6
        refine V.rnd hZ1 (i + 1) [0, 1] (by kernel_rfl) ?_ ?_
        · skip
          refine ⟨?_, ?_⟩
          · show 0 ≤ (i + 1)
            omega
          · show ∀ j, j < (i + 1).toNat → (paths.getD j default).l.length ≤ 10
            exact Rv.all_step (P := fun x => x.l.length ≤ 10) hf2 (by omega) hx1 (by omega)
        · show ((paths.length : Int) - (i + 1)).toNat < ((paths.length : Int) - i).toNat
          omega
    · skip
      refine V.go [.k (iv 0)] (fun _ _ => by kernel_rfl) fun _ _ G7 => ?_
      intro S7 t7
      refine V.loop (γ := Int) (fun i_1 => ⟨[(0, pathss.v), (1, seens.v), (6, iv i_1)], [fs false paths pathss, fs false seen seens], []⟩) (fun i_1 => (0 ≤ i_1) ∧ (∀ j, j < i_1.toNat → Rv.rowF (seen.getD j default).l)) (fun i_1 => ((seen.length : Int) - i_1).toNat) 0 (by kernel_rfl) [0, 1] (by kernel_rfl) ?_ ?_
      · skip
        refine ⟨?_, ?_⟩
        · show 0 ≤ (0 : Int)
          first | omega | rfl | (simp; done) | (subst_vars; simp; done)
        · show ∀ j, j < (0 : Int).toNat → Rv.rowF (seen.getD j default).l
          intro j hj; simp at hj
      · rintro i_1 hF2 kw9 Z2 hZ2
        have hF2 : (0 ≤ i_1) ∧ (∀ j, j < i_1.toNat → Rv.rowF (seen.getD j default).l) := hF2
        obtain ⟨hf3, hf4⟩ := hF2
        clear kw9
        refine nm ((decide (i_1 < (seen.length : Int))) && (decide (i_1 < 71)) : Bool) fun p2 hp2 => ?_
        refine V.go [.k (iv i_1),
          .k (seens.v),
          .ln (kf false (.f 1) seen (fun _ => seens)),
          .k (bv (decide (i_1 < (seen.length : Int)))),
          .k (bv (decide (i_1 < (seen.length : Int)))),
          .k (iv i_1),
          .k (bv (decide (i_1 < 71))),
          .andn g0 false (decide (i_1 < (seen.length : Int))) (decide (i_1 < 71)) p2 hp2] (fun _ _ => by kernel_rfl) fun _ _ G8 => ?_
        intro S8 t8
        refine V.cond (b := p2) (iN hp2 (iAT iDT iDT)) (iN hp2 (iAF iDF iDF)) (by kernel_rfl) (fun q5 => ?_) (fun q6 => ?_)
        · skip
          refine nm (seen.getD i_1.toNat default : Fat DThing) fun x2 hx2 => ?_
          refine V.reg [.k (seens.v),
            .k (iv i_1),
            .ix g0 (kf false (.f 1) seen (fun _ => seens)) i_1 (fun _ => ⟨by omega, by omega⟩),
            .le g0 (kf false (.f 1) seen (fun _ => seens)) i_1 none true x2 hx2 (fun _ => ⟨by omega, by omega⟩) false (fun _ => [x2.s.v]),
            .ln (kx false (.g 3 0) x2 x2.l (fun _ => x2.s) (fun _ _ h => h)),
            .k (bv (decide (10 < (x2.l.length : Int))))] (fun _ _ => by kernel_rfl) fun _ _ G9 kw11 => ?_
          intro S9 t9
          obtain ⟨⟨kl4, -⟩, -⟩ : Lq x2.l x2.s.v ∧ True := kn kw11 (by kernel_rfl)
          clear kw11
          refine V.cond (b := decide (10 < (x2.l.length : Int))) iDT iDF (by kernel_rfl) (fun q7 => ?_) (fun q8 => ?_)
          · skip
            refine V.go [.k (bv false)] (fun _ _ => by kernel_rfl) fun _ _ G10 => ?_
            intro S10 t10
            have e0 : false = decide (Rv.fewD (Rv.ls paths) (Rv.ls seen)) := by
              symm; rw [decide_eq_false_iff_not]
              exact Rv.fewD_no2 (by omega) (by omega) (by omega) hx2 (fun h => by have := h.1; omega)
            exact V.ret [0] [] [] [] [] [] (bv false) (fun _ _ => by kernel_rfl) (fun _ _ => (Eq.trans (by kernel_rfl) (cong1 (fun (x0 : Bool) => (bv x0 : Value)) e0)).trans (by kernel_rfl)) (fun _ _ => trivial)
          · skip
            refine V.go [.k (iv 0)] (fun _ _ => by kernel_rfl) fun _ _ G11 => ?_
            intro S11 t11
            refine V.loop (γ := Int) (fun k => ⟨[(0, pathss.v), (1, seens.v), (6, iv i_1), (7, iv k)], [fs false paths pathss, fs false seen seens], []⟩) (fun k => (0 ≤ k) ∧ (∀ j, j < k.toNat → ¬ Tm.longT (Rv.te (seen.getD i_1.toNat default).l j).Text.size)) (fun k => (((seen.getD i_1.toNat default).l.length : Int) - k).toNat) 0 (by kernel_rfl) [0, 1] (by kernel_rfl) ?_ ?_
            · skip
              refine ⟨?_, ?_⟩
              · show 0 ≤ (0 : Int)
                first | omega | rfl | (simp; done) | (subst_vars; simp; done)
              · show ∀ j, j < (0 : Int).toNat → ¬ Tm.longT (Rv.te (seen.getD i_1.toNat default).l j).Text.size
                intro j hj; simp at hj
            · rintro k hF3 kw14 Z3 hZ3
              have hF3 : (0 ≤ k) ∧ (∀ j, j < k.toNat → ¬ Tm.longT (Rv.te (seen.getD i_1.toNat default).l j).Text.size) := hF3
              obtain ⟨hf5, hf6⟩ := hF3
              clear kw14
              refine nm (seen.getD i_1.toNat default : Fat DThing) fun x3 hx3 => ?_
              refine V.reg [.k (iv k),
                .k (seens.v),
                .k (iv i_1),
                .ix g0 (kf false (.f 1) seen (fun _ => seens)) i_1 (fun _ => ⟨by omega, by omega⟩),
                .le g0 (kf false (.f 1) seen (fun _ => seens)) i_1 none true x3 hx3 (fun _ => ⟨by omega, by omega⟩) false (fun _ => [x3.s.v]),
                .ln (kx false (.g 4 0) x3 x3.l (fun _ => x3.s) (fun _ _ h => h)),
                .k (bv (decide (k < (x3.l.length : Int))))] (fun _ _ => by kernel_rfl) fun _ _ G12 kw15 => ?_
              intro S12 t12
              obtain ⟨⟨kl5, -⟩, -⟩ : Lq x3.l x3.s.v ∧ True := kn kw15 (by kernel_rfl)
              clear kw15
              have hxl : (seen.getD i_1.toNat default).l.length = x3.l.length := by rw [hx3]
              refine V.cond (b := decide (k < (x3.l.length : Int))) iDT iDF (by kernel_rfl) (fun q9 => ?_) (fun q10 => ?_)
              · skip
                refine nm (x3.l.getD k.toNat default : DThing) fun x4 hx4 => ?_
                refine V.reg [.k (seens.v),
                  .k (iv i_1),
                  .ix g0 (kf false (.f 1) seen (fun _ => seens)) i_1 (fun _ => ⟨by omega, by omega⟩),
                  .le g0 (kf false (.f 1) seen (fun _ => seens)) i_1 none true x3 hx3 (fun _ => ⟨by omega, by omega⟩) false (fun _ => [x3.s.v]),
                  .k (iv k),
                  .ix g0 (kx false (.g 3 0) x3 x3.l (fun _ => x3.s) (fun _ _ h => h)) k (fun _ => ⟨by omega, by omega⟩),
                  .k (.pointer (some ((elemAddr x3.s.v (k.toNat * 5)).add 0))),
                  .le g0 (kx false (.g 3 0) x3 x3.l (fun _ => x3.s) (fun _ _ h => h)) k (some 0) false x4 hx4 (fun _ => ⟨by omega, by omega⟩) false (fun _ => [tv x4.Text]),
                  .k (iv (x4.Text.size : Int)),
                  .k (iv (x4.Text.size : Int))] (fun _ _ => by kernel_rfl) fun _ _ G13 kw16 => ?_
                intro S13 t13
                obtain ⟨⟨kl6, -⟩, -⟩ : Lq x3.l x3.s.v ∧ True := kn kw16 (by kernel_rfl)
                clear kw16
                refine nm ((decide ((x4.Text.size : Int) ≤ 8000)) || (decide (8100 < (x4.Text.size : Int))) : Bool) fun p3 hp3 => ?_
                refine V.go [.k (iv (x4.Text.size : Int)),
                  .k (bv (decide (100 < (x4.Text.size : Int)))),
                  .k (bv (decide (100 < (x4.Text.size : Int)))),
                  .k (iv (x4.Text.size : Int)),
                  .k (bv (decide ((x4.Text.size : Int) ≤ 8000))),
                  .k (bv (decide ((x4.Text.size : Int) ≤ 8000))),
                  .k (iv (x4.Text.size : Int)),
                  .k (bv (decide (8100 < (x4.Text.size : Int)))),
                  .orn (gT (b := decide (100 < (x4.Text.size : Int))) iDT) false (decide ((x4.Text.size : Int) ≤ 8000)) (decide (8100 < (x4.Text.size : Int))) p3 hp3,
                  .and g0 false (decide (100 < (x4.Text.size : Int))) p3] (fun _ _ => by kernel_rfl) fun _ _ G14 => ?_
                intro S14 t14
                refine V.cond (b := (decide (100 < (x4.Text.size : Int))) && p3) (iAT iDT (iN hp3 (iOT iDT iDT))) (iAF iDF (iN hp3 (iOF iDF iDF))) (by kernel_rfl) (fun q11 => ?_) (fun q12 => ?_)
                · skip
                  refine V.go [.k (bv false)] (fun _ _ => by kernel_rfl) fun _ _ G15 => ?_
                  intro S15 t15
                  have e0 : false = decide (Rv.fewD (Rv.ls paths) (Rv.ls seen)) := by
                    symm; rw [decide_eq_false_iff_not]
                    exact Rv.fewD_no2 (by omega) (by omega) (by omega) hx3 (Rv.rowF_no (by omega) (by omega) hx4 q11)
                  exact V.ret [0] [] [] [] [] [] (bv false) (fun _ _ => by kernel_rfl) (fun _ _ => (Eq.trans (by kernel_rfl) (cong1 (fun (x0 : Bool) => (bv x0 : Value)) e0)).trans (by kernel_rfl)) (fun _ _ => trivial)
                · skip
                  refine V.go [.k (iv k),
                    .a (k + 1) (by omega) (by omega),
                    .k (iv (k + 1))] (fun _ _ => by kernel_rfl) fun _ _ G16 => ?_
                  intro S16 t16
                  refine V.rnd hZ3 (k + 1) [0, 1] (by kernel_rfl) ?_ ?_
                  · skip
                    refine ⟨?_, ?_⟩
                    · show 0 ≤ (k + 1)
                      omega
                    · show ∀ j, j < (k + 1).toNat → ¬ Tm.longT (Rv.te (seen.getD i_1.toNat default).l j).Text.size
                      have hfe := hf6; rw [← hx3] at hfe ⊢
                      exact Rv.rowF_step hfe (by omega) hx4 q12
                  · show (((seen.getD i_1.toNat default).l.length : Int) - (k + 1)).toNat < (((seen.getD i_1.toNat default).l.length : Int) - k).toNat
                    omega
              · skip
                refine V.go [.k (iv i_1),
                  .a (i_1 + 1) (by omega) (by omega),
                  .k (iv (i_1 + 1))] (fun _ _ => by kernel_rfl) fun _ _ G17 => ?_
                intro S17 t17
                refine V.rnd hZ2 (i_1 + 1) [0, 1] (by kernel_rfl) ?_ ?_
                · skip
                  refine ⟨?_, ?_⟩
                  · show 0 ≤ (i_1 + 1)
                    omega
                  · show ∀ j, j < (i_1 + 1).toNat → Rv.rowF (seen.getD j default).l
                    exact Rv.all_step (P := fun x => Rv.rowF x.l) hf4 (by omega) hx2 ⟨by omega, fun k hk => by have hz := hf6 k (by rw [← hx2] at hxl; omega); rw [← hx2] at hz; exact hz⟩
                · show ((seen.length : Int) - (i_1 + 1)).toNat < ((seen.length : Int) - i_1).toNat
                  omega
        · skip
          refine nm ((decide ((paths.length : Int) ≤ 8)) || (decide (64 < (paths.length : Int))) : Bool) fun p4 hp4 => ?_
          refine nm ((p4 && (decide ((paths.length : Int) ≤ 70))) && (decide ((seen.length : Int) ≤ 70)) : Bool) fun p5 hp5 => ?_
          refine V.go [.k (pathss.v),
            .ln (kf false (.f 0) paths (fun _ => pathss)),
            .k (bv (decide ((paths.length : Int) ≤ 8))),
            .k (bv (decide ((paths.length : Int) ≤ 8))),
            .k (pathss.v),
            .ln (kf false (.f 0) paths (fun _ => pathss)),
            .k (bv (decide (64 < (paths.length : Int)))),
            .orn g0 false (decide ((paths.length : Int) ≤ 8)) (decide (64 < (paths.length : Int))) p4 hp4,
            .k (bv p4),
            .k (pathss.v),
            .ln (kf false (.f 0) paths (fun _ => pathss)),
            .k (bv (decide ((paths.length : Int) ≤ 70))),
            .and g0 false p4 (decide ((paths.length : Int) ≤ 70)),
            .k (bv (p4 && (decide ((paths.length : Int) ≤ 70)))),
            .k (seens.v),
            .ln (kf false (.f 1) seen (fun _ => seens)),
            .k (bv (decide ((seen.length : Int) ≤ 70))),
            .andn g0 false (p4 && (decide ((paths.length : Int) ≤ 70))) (decide ((seen.length : Int) ≤ 70)) p5 hp5,
            .k (bv p5)] (fun _ _ => by kernel_rfl) fun _ _ G18 => ?_
          intro S18 t18
          have e0 : p5 = decide (Rv.fewD (Rv.ls paths) (Rv.ls seen)) := by
            refine Bool.eq_iff_iff.2 (Iff.trans (iN hp5 (iAT (iAT (iN hp4 (iOT iDT iDT)) iDT) iDT)) (Iff.trans ?_ decide_eq_true_iff.symm))
            exact (Rv.fewD_end hf2 (by omega) hf4 (by omega) (by omega) (by omega)).symm
          exact V.ret [0] [] [] [] [] [] (bv p5) (fun _ _ => by kernel_rfl) (fun _ _ => (Eq.trans (by kernel_rfl) (cong1 (fun (x0 : Bool) => (bv x0 : Value)) e0)).trans (by kernel_rfl)) (fun _ _ => trivial)

set_option maxRecDepth 10000 in
theorem places_ct (l : List Int) (ls : SV) (at_ : List UInt8) (at_s : SV) (hb : at_.length ≤ 1000) :
    Ct Try.prog 39 #[ls.v, at_s.v] [fs true l ls, fs true at_ at_s] [] (fun g => .tuple #[((g.ss 0)).v, ((g.ss 1)).v]) (fun g => [fs true ((Rv.plN l at_).1) (g.ss 0), fs true ((Rv.plN l at_).2) (g.ss 1)]) (fun g => []) (fun g => []) := by
  refine V.fn mo Try.func39 48 2 (by kernel_rfl) fun w H ε k0 => ?_
  obtain ⟨⟨kl1, -⟩, ⟨kl2, -⟩, -⟩ : Lq l ls.v ∧ Lq at_ at_s.v ∧ True := kn k0 (by kernel_rfl)
  clear k0
  refine V.go [.k (.slice none 0 0),
    .k (.slice none 0 0)] (fun _ _ => by kernel_rfl) fun _ _ G1 => ?_
  intro S1 t1
  refine V.go [.nl 0 0 true 3 ([] : List Int) [] (fun _ _ _ _ _ => trivial) (fun _ => #[]),
    .v fun G => SV.v ⟨atB (G 0).b, 0, 0⟩] (fun _ _ => by kernel_rfl) fun _ _ G2 => ?_
  intro S2 t2
  refine V.go [.nl 0 1 true 3 ([] : List Int) [] (fun _ _ _ _ _ => trivial) (fun _ => #[]),
    .v fun G => SV.v ⟨atB (G 0).b, 0, 0⟩] (fun _ _ => by kernel_rfl) fun _ _ G3 => ?_
  intro S3 t3
  refine V.go [.k (iv 0)] (fun _ _ => by kernel_rfl) fun _ _ G4 => ?_
  intro S4 t4
  refine V.loop (γ := List Int × SV × List Int × SV × Int) (fun ⟨things, thingss, out, outs, i⟩ => ⟨[(0, ls.v), (1, at_s.v), (6, thingss.v), (7, outs.v), (8, iv i)], [fs false l ls, fs false at_ at_s], [os true 3 things thingss, os true 3 out outs]⟩) (fun ⟨things, thingss, out, outs, i⟩ => (0 ≤ i) ∧ (things = (Rv.plN l (at_.take i.toNat)).1) ∧ (out = (Rv.plN l (at_.take i.toNat)).2) ∧ ((things.length : Int) ≤ i) ∧ ((out.length : Int) ≤ i)) (fun ⟨things, thingss, out, outs, i⟩ => ((at_.length : Int) - i).toNat) (([] : List Int), ⟨atB (G2 0).b, 0, 0⟩, ([] : List Int), ⟨atB (G3 0).b, 0, 0⟩, 0) (by kernel_rfl) [0, 1] (by kernel_rfl) ?_ ?_
  · skip
    refine ⟨?_, ?_, ?_, ?_, ?_⟩
    · show 0 ≤ (0 : Int)
      first | omega | simp
    · show ([] : List Int) = (Rv.plN l (at_.take (0 : Int).toNat)).1
      rw [show at_.take (0 : Int).toNat = [] from rfl, Rv.plN_zero]
    · show ([] : List Int) = (Rv.plN l (at_.take (0 : Int).toNat)).2
      rw [show at_.take (0 : Int).toNat = [] from rfl, Rv.plN_zero]
    · show (([] : List Int).length : Int) ≤ (0 : Int)
      first | omega | simp
    · show (([] : List Int).length : Int) ≤ (0 : Int)
      first | omega | simp
  · rintro ⟨things, thingss, out, outs, i⟩ hF1 kw5 Z1 hZ1
    have hF1 : (0 ≤ i) ∧ (things = (Rv.plN l (at_.take i.toNat)).1) ∧ (out = (Rv.plN l (at_.take i.toNat)).2) ∧ ((things.length : Int) ≤ i) ∧ ((out.length : Int) ≤ i) := hF1
    obtain ⟨hf1, hf2, hf3, hf4, hf5⟩ := hF1
    obtain ⟨-, -, ⟨kl3, -⟩, ⟨kl4, -⟩, -⟩ : Lq l ls.v ∧ Lq at_ at_s.v ∧ Lq things thingss.v ∧ Lq out outs.v ∧ True := kn kw5 (by kernel_rfl)
    clear kw5
    refine nm ((decide (i < (at_.length : Int))) && (decide (0 < (l.length : Int))) : Bool) fun p1 hp1 => ?_
    refine V.go [.k (iv i),
      .k (at_s.v),
      .ln (kf false (.f 1) at_ (fun _ => at_s)),
      .k (bv (decide (i < (at_.length : Int)))),
      .k (bv (decide (i < (at_.length : Int)))),
      .k (ls.v),
      .ln (kf false (.f 0) l (fun _ => ls)),
      .k (bv (decide (0 < (l.length : Int)))),
      .andn g0 false (decide (i < (at_.length : Int))) (decide (0 < (l.length : Int))) p1 hp1] (fun _ _ => by kernel_rfl) fun _ _ G5 => ?_
    intro S5 t5
    refine V.cond (b := p1) (iN hp1 (iAT iDT iDT)) (iN hp1 (iAF iDF iDF)) (by kernel_rfl) (fun q1 => ?_) (fun q2 => ?_)
    · skip
      refine nm (at_.getD i.toNat default : UInt8) fun x1 hx1 => ?_
      refine nm ((x1.toNat : Int) % (l.length : Int) : Int) fun n1 hn1 => ?_
      refine V.go [.k (at_s.v),
        .k (iv i),
        .ix g0 (kf false (.f 1) at_ (fun _ => at_s)) i (fun _ => ⟨by omega, by omega⟩),
        .le g0 (kf false (.f 1) at_ (fun _ => at_s)) i none false x1 hx1 (fun _ => ⟨by omega, by omega⟩) false (fun _ => [.int .u8 (x1.toNat : Int)]),
        .arg g0 (x1.toNat : Int) (x1.toNat : Int) rfl (fun _ => by have := UInt8.toNat_lt x1; omega),
        .k (ls.v),
        .ln (kf false (.f 0) l (fun _ => ls)),
        .rmv g0 (x1.toNat : Int) (l.length : Int) n1 hn1 (fun _ => ⟨by omega, by omega⟩),
        .k (iv n1)] (fun _ _ => by kernel_rfl) fun _ _ G6 => ?_
      intro S6 t6
      refine V.go [.k (outs.v),
        .k (iv n1),
        .cp g0 2 40 [(ko true 3 1 out (fun _ => outs)).a] (fun _ G => has49_ct out outs n1),
        .k (bv (!(decide (n1 ∈ out))))] (fun _ _ => by kernel_rfl) fun _ _ G7 => ?_
      intro S7 t7
      refine V.cond (b := !(decide (n1 ∈ out))) (iNT iDF) (iNF iDT) (by kernel_rfl) (fun q3 => ?_) (fun q4 => ?_)
      · skip
        refine nm (out ++ [n1] : List Int) fun l1 hl1 => ?_
        have hl1n := congrArg List.length hl1; try simp only [List.length_append, List.length_cons, List.length_nil, List.length_replicate, List.length_set, List.length_take, List.length_drop, List.length_map, List.length_reverse, List.length_range] at hl1n
        refine V.reg [.k (outs.v),
          .k (iv n1),
          .nr 2 true 3 [n1] [] (fun _ _ _ _ _ => trivial) (fun _ => #[iv n1]),
          .ap 3 1 3 8 false true out (fun _ => outs) (kf true (.g 2 0) [n1] (fun G => ⟨atB (G 2).b, 1, 1⟩)) true l1 hl1 (by (try simp only [List.length_append, List.length_cons, List.length_nil, List.length_replicate, List.length_set, List.length_take, List.length_drop, List.length_map, List.length_reverse, List.length_range]); omega) (fun h => by cases h) (.inr fun _ _ => trivial),
          .v fun G => ((G 3).s).v] (fun _ _ => by kernel_rfl) fun _ _ G8 kw9 => ?_
        intro S8 t8
        obtain ⟨⟨kl5, -⟩, -⟩ : Lq [n1] (SV.v ⟨atB (G8 2).b, 1, 1⟩) ∧ Lq things thingss.v ∧ Lq l1 (((G8 3).s).v) ∧ True := kn kw9 (by kernel_rfl)
        clear kw9
        refine nm (l.getD n1.toNat default : Int) fun v1 hv1 => ?_
        refine nm (things ++ [v1] : List Int) fun l2 hl2 => ?_
        have hl2n := congrArg List.length hl2; try simp only [List.length_append, List.length_cons, List.length_nil, List.length_replicate, List.length_set, List.length_take, List.length_drop, List.length_map, List.length_reverse, List.length_range] at hl2n
        refine V.reg [.k (thingss.v),
          .k (ls.v),
          .k (iv n1),
          .ix g0 (kf false (.f 0) l (fun _ => ls)) n1 (fun _ => ⟨by rw [hn1]; exact Int.emod_nonneg _ (by omega), by rw [hn1]; exact Int.emod_lt_of_pos _ (by omega)⟩),
          .le g0 (kf false (.f 0) l (fun _ => ls)) n1 none false v1 hv1 (fun _ => ⟨by rw [hn1]; exact Int.emod_nonneg _ (by omega), by rw [hn1]; exact Int.emod_lt_of_pos _ (by omega)⟩) false (fun _ => [iv v1]),
          .nr 5 true 3 [v1] [] (fun _ _ _ _ _ => trivial) (fun _ => #[iv v1]),
          .ap 6 0 3 8 false true things (fun _ => thingss) (kf true (.g 5 0) [v1] (fun G => ⟨atB (G 5).b, 1, 1⟩)) true l2 hl2 (by (try simp only [List.length_append, List.length_cons, List.length_nil, List.length_replicate, List.length_set, List.length_take, List.length_drop, List.length_map, List.length_reverse, List.length_range]); omega) (fun h => by cases h) (.inr fun _ _ => trivial),
          .v fun G => ((G 6).s).v] (fun _ _ => by kernel_rfl) fun _ _ G9 kw10 => ?_
        intro S9 t9
        obtain ⟨⟨kl6, -⟩, -⟩ : Lq [v1] (SV.v ⟨atB (G9 5).b, 1, 1⟩) ∧ Lq l2 (((G9 6).s).v) ∧ Lq l1 (((G8 3).s).v) ∧ True := kn kw10 (by kernel_rfl)
        clear kw10
        refine V.go [.k (iv i),
          .a (i + 1) (by omega) (by omega),
          .k (iv (i + 1))] (fun _ _ => by kernel_rfl) fun _ _ G10 => ?_
        intro S10 t10
        refine V.rnd hZ1 (l2, (G9 6).s, l1, (G8 3).s, i + 1) [0, 1] (by kernel_rfl) ?_ ?_
        · skip
          refine ⟨?_, ?_, ?_, ?_, ?_⟩
          · show 0 ≤ (i + 1)
            first | omega | (rw [List.length_append]; simp; omega)
          · show l2 = (Rv.plN l (at_.take (i + 1).toNat)).1
            have hP := Rv.plN_step (l := l) (by omega) (by omega) (by omega) hx1 hn1; rw [← hf3, ← hf2, if_neg q3] at hP; rw [hP, hl2, hv1]
          · show l1 = (Rv.plN l (at_.take (i + 1).toNat)).2
            have hP := Rv.plN_step (l := l) (by omega) (by omega) (by omega) hx1 hn1; rw [← hf3, ← hf2, if_neg q3] at hP; rw [hP, hl1]
          · show (l2.length : Int) ≤ (i + 1)
            first | omega | (rw [List.length_append]; simp; omega)
          · show (l1.length : Int) ≤ (i + 1)
            first | omega | (rw [List.length_append]; simp; omega)
        · show ((at_.length : Int) - (i + 1)).toNat < ((at_.length : Int) - i).toNat
          omega
      · skip
        refine V.go [.k (iv i),
          .a (i + 1) (by omega) (by omega),
          .k (iv (i + 1))] (fun _ _ => by kernel_rfl) fun _ _ G11 => ?_
        intro S11 t11
        refine V.rnd hZ1 (things, thingss, out, outs, i + 1) [0, 1] (by kernel_rfl) ?_ ?_
        · skip
          refine ⟨?_, ?_, ?_, ?_, ?_⟩
          · show 0 ≤ (i + 1)
            omega
          · show things = (Rv.plN l (at_.take (i + 1).toNat)).1
            have hP := Rv.plN_step (l := l) (by omega) (by omega) (by omega) hx1 hn1; rw [← hf3, if_pos q4] at hP; rw [hP]; exact hf2
          · show out = (Rv.plN l (at_.take (i + 1).toNat)).2
            have hP := Rv.plN_step (l := l) (by omega) (by omega) (by omega) hx1 hn1; rw [← hf3, if_pos q4] at hP; rw [hP]; exact hf3
          · show (things.length : Int) ≤ (i + 1)
            omega
          · show (out.length : Int) ≤ (i + 1)
            omega
        · show ((at_.length : Int) - (i + 1)).toNat < ((at_.length : Int) - i).toNat
          omega
    · skip
      refine V.go [.k (thingss.v),
        .k (outs.v),
        .k (thingss.v),
        .k (outs.v)] (fun _ _ => by kernel_rfl) fun _ _ G12 => ?_
      intro S12 t12
      refine V.frz 0 true 3 things thingss (by kernel_rfl) ?_
      refine V.frz 1 true 3 out outs (by kernel_rfl) ?_
      have e0 : things = (Rv.plN l at_).1 := by
        rw [← Rv.plN_end (by omega) (by omega)]; exact hf2
      subst e0
      have e1 : out = (Rv.plN l at_).2 := by
        rw [← Rv.plN_end (by omega) (by omega)]; exact hf3
      subst e1
      exact V.ret [0, 0] [thingss, outs] [fun _ => {}, fun _ => {}] [] [2, 3] [] (.tuple #[thingss.v, outs.v]) (fun _ _ => by kernel_rfl) (fun _ _ => by kernel_rfl) (fun _ _ => trivial)

end Kb
