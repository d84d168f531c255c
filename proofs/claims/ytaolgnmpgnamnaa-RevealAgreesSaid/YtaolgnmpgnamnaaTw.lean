/- The contracts of the tree: paths. -/
import Derived.Test.YtaolgnmpgnamnaaVa
import Derived.Test.YtaolgnmpgnamnaaTo
set_option linter.unusedVariables false
set_option linter.unusedSimpArgs false
namespace Kb
open Go Go.Proofs
set_option maxRecDepth 10000 in
theorem isLeaf_ct (x_Text : ByteArray) (x_Value x_Blind x_Left x_Right : Int) :
    Cp Try.prog 56 #[ag (DThing.mk x_Text x_Value x_Blind x_Left x_Right)] [] (bv (decide (x_Left = -1))) := by
  refine V.fn mo Try.func56 6 1 (by kernel_rfl) fun w H ε k0 => ?_
  clear k0
  refine V.go [.nb 0 0 (fun b => pp b 0) 44 (fun _ => ca (DThing.mk x_Text x_Value x_Blind x_Left x_Right)),
    .k (bv false)] (fun _ _ => by kernel_rfl) fun _ _ G1 => ?_
  intro S1 t1
  refine V.go [.k (pp ((G1 0).b) 3),
    .ld 0 3 false (fun _ => [iv x_Left]),
    .k (bv (decide (x_Left = (-1)))),
    .k (bv (decide (x_Left = (-1))))] (fun _ _ => by kernel_rfl) fun _ _ G2 => ?_
  intro S2 t2
  have e0 : (decide (x_Left = (-1))) = decide (x_Left = -1) := by
    refine Bool.eq_iff_iff.2 (Iff.trans iDT (Iff.trans ?_ decide_eq_true_iff.symm))
    exact Iff.rfl
  exact V.ret [0] [] [] [] [] [] (bv (decide (x_Left = (-1)))) (fun _ _ => by kernel_rfl) (fun _ _ => (Eq.trans (by kernel_rfl) (cong1 (fun (x0 : Bool) => (bv x0 : Value)) e0)).trans (by kernel_rfl)) (fun _ _ => trivial)

set_option maxRecDepth 10000 in
theorem has_ct (v : List DThing) (vs : SV) (i : Int) :
    Cp Try.prog 50 #[ag (DVault.mk ⟨v, vs⟩), iv i] [fs true v vs] (bv (decide (0 ≤ i ∧ i < (v.length : Int)))) := by
  refine V.fn mo Try.func50 14 1 (by kernel_rfl) fun w H ε k0 => ?_
  obtain ⟨⟨kl1, -⟩, -⟩ : Lq v vs.v ∧ True := kn k0 (by kernel_rfl)
  clear k0
  refine V.go [.nb 0 0 (fun b => pp b 0) 24 (fun _ => ca (DVault.mk ⟨v, vs⟩)),
    .k (bv false)] (fun _ _ => by kernel_rfl) fun _ _ G1 => ?_
  intro S1 t1
  refine nm ((decide (0 ≤ i)) && (decide (i < (v.length : Int))) : Bool) fun p1 hp1 => ?_
  refine V.go [.k (iv i),
    .k (bv (decide (0 ≤ i))),
    .k (bv (decide (0 ≤ i))),
    .k (iv i),
    .k (pp ((G1 0).b) 0),
    .ld 0 0 false (fun _ => [vs.v]),
    .ln (kf false (.f 0) v (fun _ => vs)),
    .k (bv (decide (i < (v.length : Int)))),
    .andn g0 false (decide (0 ≤ i)) (decide (i < (v.length : Int))) p1 hp1,
    .k (bv p1)] (fun _ _ => by kernel_rfl) fun _ _ G2 => ?_
  intro S2 t2
  have e0 : p1 = decide (0 ≤ i ∧ i < (v.length : Int)) := by
    refine Bool.eq_iff_iff.2 (Iff.trans (iN hp1 (iAT iDT iDT)) (Iff.trans ?_ decide_eq_true_iff.symm))
    exact Iff.rfl
  exact V.ret [0] [] [] [] [] [] (bv p1) (fun _ _ => by kernel_rfl) (fun _ _ => (Eq.trans (by kernel_rfl) (cong1 (fun (x0 : Bool) => (bv x0 : Value)) e0)).trans (by kernel_rfl)) (fun _ _ => trivial)

set_option maxRecDepth 10000 in
theorem tleaf_ct (text : ByteArray) (value blind : Int) :
    Cp Try.prog 42 #[tv text, iv value, iv blind] [] (ag (DThing.mk text value blind (-1) (-1))) := by
  refine V.fn mo Try.func42 11 1 (by kernel_rfl) fun w H ε k0 => ?_
  clear k0
  refine V.go [.nb 0 0 (fun b => pp b 0) 44 (fun _ => ca (DThing.mk ByteArray.empty 0 0 0 0))] (fun _ _ => by kernel_rfl) fun _ _ G1 => ?_
  intro S1 t1
  refine V.go [.k (tv text),
    .k (iv value),
    .k (iv blind),
    .k (ag (DThing.mk text value blind (-1) (-1))),
    .st 0 (fun _ => .blk ((G1 0).b) (ca (DThing.mk text value blind (-1) (-1))) 44)] (fun _ _ => by kernel_rfl) fun _ _ G2 => ?_
  intro S2 t2
  exact V.ret [0] [] [] [] [] [] (ag (DThing.mk text value blind (-1) (-1))) (fun _ _ => by kernel_rfl) (fun _ _ => by kernel_rfl) (fun _ _ => trivial)

set_option maxRecDepth 10000 in
theorem walks_ct (v : List DThing) (vs : SV) (path : List Int) (paths : SV) :
    Cp Try.prog 54 #[ag (DVault.mk ⟨v, vs⟩), paths.v] [fs true v vs, fs true path paths] (bv (decide (Tm.Walks v path))) := by
  refine V.fn mo Try.func54 49 2 (by kernel_rfl) fun w H ε k0 => ?_
  obtain ⟨⟨kl1, -⟩, ⟨kl2, -⟩, -⟩ : Lq v vs.v ∧ Lq path paths.v ∧ True := kn k0 (by kernel_rfl)
  clear k0
  refine V.go [.nb 0 0 (fun b => pp b 0) 24 (fun _ => ca (DVault.mk ⟨v, vs⟩)),
    .k (bv false)] (fun _ _ => by kernel_rfl) fun _ _ G1 => ?_
  intro S1 t1
  refine nm ((!(decide (Tm.Sound v))) || (decide ((path.length : Int) = 0)) : Bool) fun p1 hp1 => ?_
  refine V.go [.ld 0 0 true (fun _ => Dat.cells (DVault.mk ⟨v, vs⟩)),
    .cp g0 1 26 [(kf false (.f 0) v (fun _ => vs)).a] (fun _ G => sound_ct v vs),
    .k (bv (!(decide (Tm.Sound v)))),
    .k (bv (!(decide (Tm.Sound v)))),
    .k (paths.v),
    .ln (kf false (.f 1) path (fun _ => paths)),
    .k (bv (decide ((path.length : Int) = 0))),
    .orn g0 false (!(decide (Tm.Sound v))) (decide ((path.length : Int) = 0)) p1 hp1] (fun _ _ => by kernel_rfl) fun _ _ G2 => ?_
  intro S2 t2
  refine V.cond (b := p1) (iN hp1 (iOT (iNT iDF) iDT)) (iN hp1 (iOF (iNF iDT) iDF)) (by kernel_rfl) (fun q1 => ?_) (fun q2 => ?_)
  · skip
    refine V.go [.k (bv false)] (fun _ _ => by kernel_rfl) fun _ _ G3 => ?_
    intro S3 t3
    have e0 : false = decide (Tm.Walks v path) := by
      symm; rw [decide_eq_false_iff_not]; rintro ⟨h1, h2, _⟩; rcases q1 with h | h
      · exact h h1
      · omega
    exact V.ret [0] [] [] [] [] [] (bv false) (fun _ _ => by kernel_rfl) (fun _ _ => (Eq.trans (by kernel_rfl) (cong1 (fun (x0 : Bool) => (bv x0 : Value)) e0)).trans (by kernel_rfl)) (fun _ _ => trivial)
  · skip
    refine V.go [.k (paths.v),
      .ln (kf false (.f 1) path (fun _ => paths)),
      .k (iv 0)] (fun _ _ => by kernel_rfl) fun _ _ G4 => ?_
    intro S4 t4
    refine V.loop (γ := Int) (fun k0 => ⟨[(1, paths.v), (2, pp ((G1 0).b) 0), (16, paths.v), (17, iv (path.length : Int)), (18, iv k0)], [fs false path paths, fs false v vs], [.blk ((G1 0).b) (ca (DVault.mk ⟨v, vs⟩)) 24, .no]⟩) (fun k0 => (0 ≤ k0) ∧ (k0 ≤ (path.length : Int)) ∧ (Tm.walksTo v path k0.toNat)) (fun k0 => ((path.length : Int) - k0).toNat) 0 (by kernel_rfl) [1, 0] (by kernel_rfl) ?_ ?_
    · skip
      refine ⟨?_, ?_, ?_⟩
      · show 0 ≤ (0 : Int)
        first | omega | rfl | (simp; done) | (subst_vars; simp; done)
      · show (0 : Int) ≤ (path.length : Int)
        first | omega | rfl | (simp; done) | (subst_vars; simp; done)
      · show Tm.walksTo v path (0 : Int).toNat
        intro i hi; simp at hi
    · rintro k0 hF1 kw5 Z1 hZ1
      have hF1 : (0 ≤ k0) ∧ (k0 ≤ (path.length : Int)) ∧ (Tm.walksTo v path k0.toNat) := hF1
      obtain ⟨hf1, hf2, hf3⟩ := hF1
      clear kw5
      refine V.go [.k (bv (decide (k0 < (path.length : Int))))] (fun _ _ => by kernel_rfl) fun _ _ G5 => ?_
      intro S5 t5
      refine V.cond (b := decide (k0 < (path.length : Int))) iDT iDF (by kernel_rfl) (fun q3 => ?_) (fun q4 => ?_)
      · skip
        refine nm (path.getD k0.toNat default : Int) fun v1 hv1 => ?_
        refine V.go [.k (iv k0),
          .ix g0 (kf false (.f 0) path (fun _ => paths)) k0 (fun _ => ⟨by omega, by omega⟩),
          .le g0 (kf false (.f 0) path (fun _ => paths)) k0 none false v1 hv1 (fun _ => ⟨by omega, by omega⟩) false (fun _ => [iv v1]),
          .k (iv k0),
          .k (iv v1)] (fun _ _ => by kernel_rfl) fun _ _ G6 => ?_
        intro S6 t6
        refine V.go [.ld 0 0 true (fun _ => Dat.cells (DVault.mk ⟨v, vs⟩)),
          .k (iv v1),
          .cp g0 2 50 [(kf false (.f 1) v (fun _ => vs)).a] (fun _ G => has_ct v vs v1),
          .k (bv (!(decide (0 ≤ v1 ∧ v1 < (v.length : Int)))))] (fun _ _ => by kernel_rfl) fun _ _ G7 => ?_
        intro S7 t7
        refine V.cond (b := !(decide (0 ≤ v1 ∧ v1 < (v.length : Int)))) (iNT iDF) (iNF iDT) (by kernel_rfl) (fun q5 => ?_) (fun q6 => ?_)
        · skip
          refine V.go [.k (bv false)] (fun _ _ => by kernel_rfl) fun _ _ G8 => ?_
          intro S8 t8
          have e0 : false = decide (Tm.Walks v path) := by
            exact Tm.walks_no_has (k := k0) (by omega) (by omega) (by assumption) q5
          exact V.ret [0] [] [] [] [] [] (bv false) (fun _ _ => by kernel_rfl) (fun _ _ => (Eq.trans (by kernel_rfl) (cong1 (fun (x0 : Bool) => (bv x0 : Value)) e0)).trans (by kernel_rfl)) (fun _ _ => trivial)
        · skip
          refine V.go [.k (iv k0),
            .k (bv (decide (0 < k0)))] (fun _ _ => by kernel_rfl) fun _ _ G9 => ?_
          intro S9 t9
          refine V.cond (b := decide (0 < k0)) iDT iDF (by kernel_rfl) (fun q7 => ?_) (fun q8 => ?_)
          · skip
            refine nm (path.getD (k0 - 1).toNat default : Int) fun v2 hv2 => ?_
            refine nm (v.getD v2.toNat default : DThing) fun x1 hx1 => ?_
            have hpv := Tm.walks_prev (k := k0) (by assumption) (by omega) rfl (by assumption)
            refine V.go [.k (pp ((G1 0).b) 0),
              .ld 0 0 false (fun _ => [vs.v]),
              .k (paths.v),
              .k (iv k0),
              .a (k0 - 1) (by omega) (by omega),
              .ix g0 (kf false (.f 0) path (fun _ => paths)) (k0 - 1) (fun _ => ⟨by omega, by omega⟩),
              .le g0 (kf false (.f 0) path (fun _ => paths)) (k0 - 1) none false v2 hv2 (fun _ => ⟨by omega, by omega⟩) false (fun _ => [iv v2]),
              .ix g0 (kf false (.f 1) v (fun _ => vs)) v2 (fun _ => ⟨by omega, by omega⟩),
              .le g0 (kf false (.f 1) v (fun _ => vs)) v2 none false x1 hx1 (fun _ => ⟨by omega, by omega⟩) true (fun _ => Dat.cells x1),
              .nb 9 1 (fun b => pp b 0) 44 (fun _ => ca (DThing.mk ByteArray.empty 0 0 0 0)),
              .st 1 (fun G => .blk ((G 9).b) (ca x1) 44)] (fun _ _ => by kernel_rfl) fun _ _ G10 => ?_
            intro S10 t10
            refine nm ((!(decide (x1.Left = v1))) && (!(decide (x1.Right = v1))) : Bool) fun p2 hp2 => ?_
            refine V.go [.k (pp ((G10 9).b) 3),
              .ld 1 3 false (fun _ => [iv x1.Left]),
              .k (iv v1),
              .k (bv (!(decide (x1.Left = v1)))),
              .k (bv (!(decide (x1.Left = v1)))),
              .k (pp ((G10 9).b) 4),
              .ld 1 4 false (fun _ => [iv x1.Right]),
              .k (iv v1),
              .k (bv (!(decide (x1.Right = v1)))),
              .andn g0 false (!(decide (x1.Left = v1))) (!(decide (x1.Right = v1))) p2 hp2] (fun _ _ => by kernel_rfl) fun _ _ G11 => ?_
            intro S11 t11
            refine V.cond (b := p2) (iN hp2 (iAT (iNT iDF) (iNT iDF))) (iN hp2 (iAF (iNF iDT) (iNF iDT))) (by kernel_rfl) (fun q9 => ?_) (fun q10 => ?_)
            · skip
              refine V.go [.k (bv false)] (fun _ _ => by kernel_rfl) fun _ _ G12 => ?_
              intro S12 t12
              have e0 : false = decide (Tm.Walks v path) := by
                exact Tm.walks_no_step (k := k0) (by omega) (by omega) (by assumption) rfl (by assumption) (by assumption) q9
              exact V.ret [0] [] [] [] [] [] (bv false) (fun _ _ => by kernel_rfl) (fun _ _ => (Eq.trans (by kernel_rfl) (cong1 (fun (x0 : Bool) => (bv x0 : Value)) e0)).trans (by kernel_rfl)) (fun _ _ => trivial)
            · skip
              refine V.go [.a (k0 + 1) (by omega) (by omega),
                .k (iv (k0 + 1))] (fun _ _ => by kernel_rfl) fun _ _ G13 => ?_
              intro S13 t13
              refine V.rnd hZ1 (k0 + 1) [0, 1] (by kernel_rfl) ?_ ?_
              · skip
                refine ⟨?_, ?_, ?_⟩
                · show 0 ≤ (k0 + 1)
                  first | omega | rfl | (simp; done) | (subst_vars; simp; done)
                · show (k0 + 1) ≤ (path.length : Int)
                  first | omega | rfl | (simp; done) | (subst_vars; simp; done)
                · show Tm.walksTo v path (k0 + 1).toNat
                  refine Tm.walks_step (by assumption) (by assumption) rfl (by assumption) (by assumption) ?_
                  intro h; exact ⟨_, _, _, rfl, by assumption, by assumption, by omega⟩
              · show ((path.length : Int) - (k0 + 1)).toNat < ((path.length : Int) - k0).toNat
                omega
          · skip
            refine V.go [.a (k0 + 1) (by omega) (by omega),
              .k (iv (k0 + 1))] (fun _ _ => by kernel_rfl) fun _ _ G14 => ?_
            intro S14 t14
            refine V.rnd hZ1 (k0 + 1) [0, 1] (by kernel_rfl) ?_ ?_
            · skip
              refine ⟨?_, ?_, ?_⟩
              · show 0 ≤ (k0 + 1)
                first | omega | rfl | (simp; done) | (subst_vars; simp; done)
              · show (k0 + 1) ≤ (path.length : Int)
                first | omega | rfl | (simp; done) | (subst_vars; simp; done)
              · show Tm.walksTo v path (k0 + 1).toNat
                refine Tm.walks_step (by assumption) (by assumption) rfl (by assumption) (by assumption) ?_
                intro h; omega
            · show ((path.length : Int) - (k0 + 1)).toNat < ((path.length : Int) - k0).toNat
              omega
      · skip
        refine V.go [.k (bv true)] (fun _ _ => by kernel_rfl) fun _ _ G15 => ?_
        intro S15 t15
        have e0 : true = decide (Tm.Walks v path) := by
          symm; rw [decide_eq_true_iff]
          refine ⟨by rcases q2 with ⟨h, _⟩; first | exact h | exact Decidable.not_not.1 h, by omega, ?_⟩
          rwa [show path.length = k0.toNat by omega]
        exact V.ret [0] [] [] [] [] [] (bv true) (fun _ _ => by kernel_rfl) (fun _ _ => (Eq.trans (by kernel_rfl) (cong1 (fun (x0 : Bool) => (bv x0 : Value)) e0)).trans (by kernel_rfl)) (fun _ _ => trivial)

set_option maxRecDepth 10000 in
theorem reach_ct (v : List DThing) (vs : SV) (leaf : Int) (hS : Tm.Sound v) (hh : 0 ≤ leaf ∧ leaf < (v.length : Int)) :
    Ct Try.prog 51 #[ag (DVault.mk ⟨v, vs⟩), iv leaf] [fs true v vs] [] (fun g => ((g.ss 0)).v) (fun g => [fs true (Tm.reachF v leaf) (g.ss 0)]) (fun g => []) (fun g => []) := by
  refine V.fn mo Try.func51 49 3 (by kernel_rfl) fun w H ε k0 => ?_
  obtain ⟨⟨kl1, -⟩, -⟩ : Lq v vs.v ∧ True := kn k0 (by kernel_rfl)
  clear k0
  have hS1 := hS.1
  refine V.go [.nb 0 0 (fun b => pp b 0) 24 (fun _ => ca (DVault.mk ⟨v, vs⟩)),
    .k (.slice none 0 0)] (fun _ _ => by kernel_rfl) fun _ _ G1 => ?_
  intro S1 t1
  refine nm (List.replicate (v.length : Int).toNat false : List Bool) fun l1 hl1 => ?_
  have hl1n := congrArg List.length hl1; try simp only [List.length_append, List.length_cons, List.length_nil, List.length_replicate, List.length_set, List.length_take, List.length_drop, List.length_map, List.length_reverse, List.length_range] at hl1n
  refine V.go [.k (pp ((G1 0).b) 0),
    .ld 0 0 false (fun _ => [vs.v]),
    .ln (kf false (.f 0) v (fun _ => vs)),
    .mks 3 1 4 1 (v.length : Int) l1 hl1 (by omega) (by omega) (by omega),
    .v fun G => ((G 3).s).v] (fun _ _ => by kernel_rfl) fun _ _ G2 => ?_
  intro S2 t2
  refine nm (l1.getD leaf.toNat default : Bool) fun x1 hx1 => ?_
  refine nm (l1.set leaf.toNat true : List Bool) fun l2 hl2 => ?_
  have hl2n := congrArg List.length hl2; try simp only [List.length_append, List.length_cons, List.length_nil, List.length_replicate, List.length_set, List.length_take, List.length_drop, List.length_map, List.length_reverse, List.length_range] at hl2n
  refine V.go [.k (((G2 3).s).v),
    .k (iv leaf),
    .ix g0 (ko true 4 1 l1 (fun _ => (G2 3).s)) leaf (fun _ => ⟨by omega, by omega⟩),
    .se g0 3 1 4 true l1 (fun _ => (G2 3).s) leaf none x1 true hx1 true l2 hl2 (fun _ => ⟨by omega, by omega⟩) (fun _ => rfl) [] (fun _ _ _ _ => trivial)] (fun _ _ => by kernel_rfl) fun _ _ G3 => ?_
  intro S3 t3
  refine V.go [.k (iv leaf),
    .a (leaf + 1) (by omega) (by omega),
    .k (iv (leaf + 1))] (fun _ _ => by kernel_rfl) fun _ _ G4 => ?_
  intro S4 t4
  refine V.loop (γ := List Bool × SV × Int) (fun ⟨out, outs, i⟩ => ⟨[(2, pp ((G1 0).b) 0), (5, outs.v), (6, iv i)], [fs false v vs], [.blk ((G1 0).b) (ca (DVault.mk ⟨v, vs⟩)) 24, os true 4 out outs, .no]⟩) (fun ⟨out, outs, i⟩ => (leaf < i) ∧ (i ≤ (v.length : Int)) ∧ (out = Tm.reachW v leaf i.toNat)) (fun ⟨out, outs, i⟩ => ((v.length : Int) - i).toNat) (l2, (G2 3).s, leaf + 1) (by kernel_rfl) [0] (by kernel_rfl) ?_ ?_
  · skip
    refine ⟨?_, ?_, ?_⟩
    · show leaf < (leaf + 1)
      first | omega | rfl | (simp; done) | (subst_vars; simp; done)
    · show (leaf + 1) ≤ (v.length : Int)
      first | omega | rfl | (simp; done) | (subst_vars; simp; done)
    · show l2 = Tm.reachW v leaf (leaf + 1).toNat
      rw [← Tm.reachW_start hh.1 hh.2]
      subst_vars
      simp
  · rintro ⟨out, outs, i⟩ hF1 kw5 Z1 hZ1
    have hF1 : (leaf < i) ∧ (i ≤ (v.length : Int)) ∧ (out = Tm.reachW v leaf i.toNat) := hF1
    obtain ⟨hf1, hf2, hf3⟩ := hF1
    obtain ⟨-, ⟨kl2, -⟩, -⟩ : Lq v vs.v ∧ Lq out outs.v ∧ True := kn kw5 (by kernel_rfl)
    clear kw5
    have hol : out.length = v.length := by rw [hf3]; exact Tm.reachW_length (by omega)
    refine V.go [.k (iv i),
      .k (outs.v),
      .ln (ko true 4 1 out (fun _ => outs)),
      .k (bv (decide (i < (out.length : Int))))] (fun _ _ => by kernel_rfl) fun _ _ G5 => ?_
    intro S5 t5
    refine V.cond (b := decide (i < (out.length : Int))) iDT iDF (by kernel_rfl) (fun q1 => ?_) (fun q2 => ?_)
    · skip
      refine nm (v.getD i.toNat default : DThing) fun x2 hx2 => ?_
      refine V.go [.k (pp ((G1 0).b) 0),
        .ld 0 0 false (fun _ => [vs.v]),
        .k (iv i),
        .ix g0 (kf false (.f 0) v (fun _ => vs)) i (fun _ => ⟨by omega, by omega⟩),
        .le g0 (kf false (.f 0) v (fun _ => vs)) i none false x2 hx2 (fun _ => ⟨by omega, by omega⟩) true (fun _ => Dat.cells x2),
        .nb 5 2 (fun b => pp b 0) 44 (fun _ => ca (DThing.mk ByteArray.empty 0 0 0 0)),
        .st 2 (fun G => .blk ((G 5).b) (ca x2) 44)] (fun _ _ => by kernel_rfl) fun _ _ G6 => ?_
      intro S6 t6
      refine nm (out.getD x2.Left.toNat default : Bool) fun x3 hx3 => ?_
      refine nm (out.getD x2.Right.toNat default : Bool) fun x4 hx4 => ?_
      refine nm (out.getD i.toNat default : Bool) fun x5 hx5 => ?_
      refine nm (out.set i.toNat ((!(decide (x2.Left = -1))) && (x3 || x4)) : List Bool) fun l3 hl3 => ?_
      have hl3n := congrArg List.length hl3; try simp only [List.length_append, List.length_cons, List.length_nil, List.length_replicate, List.length_set, List.length_take, List.length_drop, List.length_map, List.length_reverse, List.length_range] at hl3n
      refine V.go [.k (outs.v),
        .k (iv i),
        .ld 2 0 true (fun _ => Dat.cells x2),
        .cp g0 3 56 [] (fun _ G => isLeaf_ct x2.Text x2.Value x2.Blind x2.Left x2.Right),
        .k (bv (!(decide (x2.Left = -1)))),
        .k (bv (!(decide (x2.Left = -1)))),
        .k (outs.v),
        .k (pp ((G6 5).b) 3),
        .ld 2 3 false (fun _ => [iv x2.Left]),
        .ix (gT (b := !(decide (x2.Left = -1))) (iNT iDF)) (ko true 4 1 out (fun _ => outs)) x2.Left (fun hg => (by have hsp := Tm.sound_pair hS (k := i) (by omega) (by omega) (by assumption) hg; constructor <;> omega)),
        .le (gT (b := !(decide (x2.Left = -1))) (iNT iDF)) (ko true 4 1 out (fun _ => outs)) x2.Left none false x3 hx3 (fun hg => (by have hsp := Tm.sound_pair hS (k := i) (by omega) (by omega) (by assumption) hg; constructor <;> omega)) false (fun _ => [bv x3]),
        .k (bv x3),
        .k (outs.v),
        .k (pp ((G6 5).b) 4),
        .ld 2 4 false (fun _ => [iv x2.Right]),
        .ix ((gT (b := !(decide (x2.Left = -1))) (iNT iDF)).F (b := x3) Iff.rfl) (ko true 4 1 out (fun _ => outs)) x2.Right (fun hg => (by have hsp := Tm.sound_pair hS (k := i) (by omega) (by omega) (by assumption) hg.1; constructor <;> omega)),
        .le ((gT (b := !(decide (x2.Left = -1))) (iNT iDF)).F (b := x3) Iff.rfl) (ko true 4 1 out (fun _ => outs)) x2.Right none false x4 hx4 (fun hg => (by have hsp := Tm.sound_pair hS (k := i) (by omega) (by omega) (by assumption) hg.1; constructor <;> omega)) false (fun _ => [bv x4]),
        .or (gT (b := !(decide (x2.Left = -1))) (iNT iDF)) false x3 x4,
        .and g0 false (!(decide (x2.Left = -1))) (x3 || x4),
        .ix g0 (ko true 4 1 out (fun _ => outs)) i (fun _ => ⟨by omega, by omega⟩),
        .se g0 20 1 4 true out (fun _ => outs) i none x5 ((!(decide (x2.Left = -1))) && (x3 || x4)) hx5 true l3 hl3 (fun _ => ⟨by omega, by omega⟩) (fun _ => rfl) [] (fun _ _ _ _ => trivial)] (fun _ _ => by kernel_rfl) fun _ _ G7 => ?_
      intro S7 t7
      refine V.go [.k (iv i),
        .a (i + 1) (by omega) (by omega),
        .k (iv (i + 1))] (fun _ _ => by kernel_rfl) fun _ _ G8 => ?_
      intro S8 t8
      refine V.rnd hZ1 (l3, outs, i + 1) [0] (by kernel_rfl) ?_ ?_
      · skip
        refine ⟨?_, ?_, ?_⟩
        · show leaf < (i + 1)
          first | omega | rfl | (simp; done) | (subst_vars; simp; done)
        · show (i + 1) ≤ (v.length : Int)
          first | omega | rfl | (simp; done) | (subst_vars; simp; done)
        · show l3 = Tm.reachW v leaf (i + 1).toNat
          rw [hl3]
          exact Tm.reach_round hS hh.1 (by omega) (by omega) (by assumption) hf3 (by first | rfl | (subst_vars; rfl)) rfl
      · show ((v.length : Int) - (i + 1)).toNat < ((v.length : Int) - i).toNat
        omega
    · skip
      refine V.go [.k (outs.v),
        .k (outs.v)] (fun _ _ => by kernel_rfl) fun _ _ G9 => ?_
      intro S9 t9
      refine V.frz 1 true 4 out outs (by kernel_rfl) ?_
      have e0 : out = Tm.reachF v leaf := by
        rw [hf3]
        exact Tm.reachW_end (by omega)
      subst e0
      exact V.ret [0] [outs] [fun _ => {}] [] [1] [] (outs.v) (fun _ _ => by kernel_rfl) (fun _ _ => by kernel_rfl) (fun _ _ => trivial)

set_option maxRecDepth 10000 in
theorem path_ct (v : List DThing) (vs : SV) (root leaf : Int) :
    Ct Try.prog 20 #[ag (DVault.mk ⟨v, vs⟩), iv root, iv leaf] [fs true v vs] [] (fun g => ((g.ss 0)).v) (fun g => [fs true (Tm.pathF v root leaf) (g.ss 0)]) (fun g => []) (fun g => []) := by
  refine V.fn mo Try.func20 69 3 (by kernel_rfl) fun w H ε k0 => ?_
  obtain ⟨⟨kl1, -⟩, -⟩ : Lq v vs.v ∧ True := kn k0 (by kernel_rfl)
  clear k0
  refine V.go [.nb 0 0 (fun b => pp b 0) 24 (fun _ => ca (DVault.mk ⟨v, vs⟩)),
    .k (.slice none 0 0)] (fun _ _ => by kernel_rfl) fun _ _ G1 => ?_
  intro S1 t1
  refine nm ((!(decide (Tm.Sound v))) || (!(decide (0 ≤ root ∧ root < (v.length : Int)))) : Bool) fun p1 hp1 => ?_
  refine nm (p1 || (!(decide (0 ≤ leaf ∧ leaf < (v.length : Int)))) : Bool) fun p2 hp2 => ?_
  refine V.go [.ld 0 0 true (fun _ => Dat.cells (DVault.mk ⟨v, vs⟩)),
    .cp g0 1 26 [(kf false (.f 0) v (fun _ => vs)).a] (fun _ G => sound_ct v vs),
    .k (bv (!(decide (Tm.Sound v)))),
    .k (bv (!(decide (Tm.Sound v)))),
    .ld 0 0 true (fun _ => Dat.cells (DVault.mk ⟨v, vs⟩)),
    .k (iv root),
    .cp (gF (b := !(decide (Tm.Sound v))) (iNF iDT)) 6 50 [(kf false (.f 0) v (fun _ => vs)).a] (fun hg G => has_ct v vs root),
    .k (bv (!(decide (0 ≤ root ∧ root < (v.length : Int))))),
    .orn g0 false (!(decide (Tm.Sound v))) (!(decide (0 ≤ root ∧ root < (v.length : Int)))) p1 hp1,
    .k (bv p1),
    .ld 0 0 true (fun _ => Dat.cells (DVault.mk ⟨v, vs⟩)),
    .k (iv leaf),
    .cp (gF (b := p1) (iN hp1 (iOF (iNF iDT) (iNF iDT)))) 12 50 [(kf false (.f 0) v (fun _ => vs)).a] (fun hg G => has_ct v vs leaf),
    .k (bv (!(decide (0 ≤ leaf ∧ leaf < (v.length : Int))))),
    .orn g0 false p1 (!(decide (0 ≤ leaf ∧ leaf < (v.length : Int)))) p2 hp2] (fun _ _ => by kernel_rfl) fun _ _ G2 => ?_
  intro S2 t2
  refine V.cond (b := p2) (iN hp2 (iOT (iN hp1 (iOT (iNT iDF) (iNT iDF))) (iNT iDF))) (iN hp2 (iOF (iN hp1 (iOF (iNF iDT) (iNF iDT))) (iNF iDT))) (by kernel_rfl) (fun q1 => ?_) (fun q2 => ?_)
  · skip
    refine V.go [.k (.slice none 0 0)] (fun _ _ => by kernel_rfl) fun _ _ G3 => ?_
    intro S3 t3
    refine V.nilF (α := Int) ?_
    have e0 : ([] : List Int) = Tm.pathF v root leaf := by
      symm; refine Tm.pathF_no ?_; rintro ⟨h1, h2, h3, _⟩; unfold Tm.has at h2 h3; rcases q1 with (h | h) | h
      · exact h h1
      · omega
      · omega
    rw [← e0]
    exact V.ret [0] [{}] [fun _ => {}] [] [1] [] (SV.v ({})) (fun _ _ => by kernel_rfl) (fun _ _ => by kernel_rfl) (fun _ _ => trivial)
  · skip
    have hS : Tm.Sound v := by rcases q2 with ⟨⟨h, _⟩, _⟩; first | exact h | exact Decidable.not_not.1 h
    have hS1 := hS.1
    have hnear : (Tm.reachF v leaf).length = v.length := Tm.reachF_length _ _
    refine V.reg [.ld 0 0 true (fun _ => Dat.cells (DVault.mk ⟨v, vs⟩)),
      .k (iv leaf),
      .ct g0 2 51 false [] [] [(kf false (.f 0) v (fun _ => vs)).a] (fun _ G => reach_ct v vs leaf hS (by omega)),
      .v fun G => ((G 2).ss 0).v] (fun _ _ => by kernel_rfl) fun _ _ G4 kw4 => ?_
    intro S4 t4
    obtain ⟨⟨kl2, -⟩, -⟩ : Lq (Tm.reachF v leaf) (((G4 2).ss 0).v) ∧ True := kn kw4 (by kernel_rfl)
    clear kw4
    refine nm ((Tm.reachF v leaf).getD root.toNat default : Bool) fun x1 hx1 => ?_
    refine V.go [.k (((G4 2).ss 0).v),
      .k (iv root),
      .ix g0 (kf true (.f 1) (Tm.reachF v leaf) (fun _ => (G4 2).ss 0)) root (fun _ => ⟨by omega, by omega⟩),
      .le g0 (kf true (.f 1) (Tm.reachF v leaf) (fun _ => (G4 2).ss 0)) root none false x1 hx1 (fun _ => ⟨by omega, by omega⟩) false (fun _ => [bv x1]),
      .k (bv (!x1))] (fun _ _ => by kernel_rfl) fun _ _ G5 => ?_
    intro S5 t5
    have hnv : x1 = Tm.near v leaf root := by rw [hx1]; exact Tm.reachF_at rfl _
    refine V.cond (b := !x1) (iNT Iff.rfl) (iNF Iff.rfl) (by kernel_rfl) (fun q3 => ?_) (fun q4 => ?_)
    · skip
      refine V.go [.k (.slice none 0 0)] (fun _ _ => by kernel_rfl) fun _ _ G6 => ?_
      intro S6 t6
      refine V.nilF (α := Int) ?_
      have e0 : ([] : List Int) = Tm.pathF v root leaf := by
        symm; refine Tm.pathF_no ?_; rintro ⟨_, _, _, h4⟩; rw [hnv, h4] at q3; cases q3
      rw [← e0]
      exact V.ret [0] [{}] [fun _ => {}] [] [2] [] (SV.v ({})) (fun _ _ => by kernel_rfl) (fun _ _ => by kernel_rfl) (fun _ _ => trivial)
    · skip
      have hroot : Tm.near v leaf root = true := by rw [← hnv]; exact q4
      refine V.go [.k (iv root),
        .nl 1 1 true 3 [root] [] (fun _ _ _ _ _ => trivial) (fun _ => #[iv root]),
        .v fun G => SV.v ⟨atB (G 1).b, 1, 1⟩] (fun _ _ => by kernel_rfl) fun _ _ G7 => ?_
      intro S7 t7
      refine V.go [.k (iv root),
        .k (iv root)] (fun _ _ => by kernel_rfl) fun _ _ G8 => ?_
      intro S8 t8
      refine V.loop (γ := List Int × SV × Int) (fun ⟨path, paths, cur⟩ => ⟨[(2, iv leaf), (3, pp ((G1 0).b) 0), (7, ((G4 2).ss 0).v), (8, paths.v), (9, iv cur)], [fs true (Tm.reachF v leaf) ((G4 2).ss 0), fs false v vs], [.blk ((G1 0).b) (ca (DVault.mk ⟨v, vs⟩)) 24, os true 3 path paths, .no]⟩) (fun ⟨path, paths, cur⟩ => (0 ≤ cur) ∧ (cur < (v.length : Int)) ∧ (Tm.near v leaf cur = true) ∧ (leaf ≤ cur) ∧ ((path.length : Int) + cur ≤ root + 1) ∧ (∃ pre, path = pre ++ [cur] ∧ Tm.rest v leaf root = pre ++ Tm.rest v leaf cur)) (fun ⟨path, paths, cur⟩ => cur.toNat) ([root], ⟨atB (G7 1).b, 1, 1⟩, root) (by kernel_rfl) [1, 0] (by kernel_rfl) ?_ ?_
      · skip
        refine ⟨?_, ?_, ?_, ?_, ?_, ?_⟩
        · show 0 ≤ root
          first | omega | rfl | (simp; done) | (subst_vars; simp; done)
        · show root < (v.length : Int)
          first | omega | rfl | (simp; done) | (subst_vars; simp; done)
        · show Tm.near v leaf root = true
          exact hroot
        · show leaf ≤ root
          exact Tm.near_ge (by omega) (by omega) hroot
        · show ([root].length : Int) + root ≤ root + 1
          simp <;> omega
        · show ∃ pre, [root] = pre ++ [root] ∧ Tm.rest v leaf root = pre ++ Tm.rest v leaf root
          exact ⟨[], rfl, rfl⟩
      · rintro ⟨path, paths, cur⟩ hF1 kw9 Z1 hZ1
        have hF1 : (0 ≤ cur) ∧ (cur < (v.length : Int)) ∧ (Tm.near v leaf cur = true) ∧ (leaf ≤ cur) ∧ ((path.length : Int) + cur ≤ root + 1) ∧ (∃ pre, path = pre ++ [cur] ∧ Tm.rest v leaf root = pre ++ Tm.rest v leaf cur) := hF1
        obtain ⟨hf1, hf2, hf3, hf4, hf5, hf6⟩ := hF1
        obtain ⟨-, -, ⟨kl3, -⟩, -⟩ : Lq (Tm.reachF v leaf) (((G4 2).ss 0).v) ∧ Lq v vs.v ∧ Lq path paths.v ∧ True := kn kw9 (by kernel_rfl)
        clear kw9
        refine V.go [.k (iv cur),
          .k (iv leaf),
          .k (bv (!(decide (cur = leaf))))] (fun _ _ => by kernel_rfl) fun _ _ G9 => ?_
        intro S9 t9
        refine V.cond (b := !(decide (cur = leaf))) (iNT iDF) (iNF iDT) (by kernel_rfl) (fun q5 => ?_) (fun q6 => ?_)
        · skip
          refine nm (v.getD cur.toNat default : DThing) fun x2 hx2 => ?_
          refine V.go [.k (pp ((G1 0).b) 0),
            .ld 0 0 false (fun _ => [vs.v]),
            .k (iv cur),
            .ix g0 (kf false (.f 1) v (fun _ => vs)) cur (fun _ => ⟨by omega, by omega⟩),
            .le g0 (kf false (.f 1) v (fun _ => vs)) cur none false x2 hx2 (fun _ => ⟨by omega, by omega⟩) true (fun _ => Dat.cells x2),
            .nb 5 2 (fun b => pp b 0) 44 (fun _ => ca (DThing.mk ByteArray.empty 0 0 0 0)),
            .st 2 (fun G => .blk ((G 5).b) (ca x2) 44)] (fun _ _ => by kernel_rfl) fun _ _ G10 => ?_
          intro S10 t10
          refine V.go [.k (pp ((G10 5).b) 3),
            .ld 2 3 false (fun _ => [iv x2.Left]),
            .k (pp ((G10 5).b) 4),
            .ld 2 4 false (fun _ => [iv x2.Right]),
            .mn x2.Left x2.Right,
            .k (pp ((G10 5).b) 3),
            .ld 2 3 false (fun _ => [iv x2.Left]),
            .k (pp ((G10 5).b) 4),
            .ld 2 4 false (fun _ => [iv x2.Right]),
            .mx x2.Left x2.Right,
            .k (iv (min x2.Left x2.Right)),
            .k (iv (max x2.Left x2.Right))] (fun _ _ => by kernel_rfl) fun _ _ G11 => ?_
          intro S11 t11
          have hdn := Tm.down hS (i := cur) (leaf := leaf) (by omega) (by assumption) (by assumption) (by assumption) q5 (by assumption) (rfl : _ = min x2.Left x2.Right) (rfl : _ = max x2.Left x2.Right)
          refine V.go [.k (iv (min x2.Left x2.Right)),
            .k (iv (min x2.Left x2.Right))] (fun _ _ => by kernel_rfl) fun _ _ G12 => ?_
          intro S12 t12
          refine nm ((Tm.reachF v leaf).getD (min x2.Left x2.Right).toNat default : Bool) fun x3 hx3 => ?_
          refine V.go [.k (((G4 2).ss 0).v),
            .k (iv (min x2.Left x2.Right)),
            .ix g0 (kf true (.f 0) (Tm.reachF v leaf) (fun _ => (G4 2).ss 0)) (min x2.Left x2.Right) (fun _ => ⟨by omega, by omega⟩),
            .le g0 (kf true (.f 0) (Tm.reachF v leaf) (fun _ => (G4 2).ss 0)) (min x2.Left x2.Right) none false x3 hx3 (fun _ => ⟨by omega, by omega⟩) false (fun _ => [bv x3]),
            .k (bv (!x3))] (fun _ _ => by kernel_rfl) fun _ _ G13 => ?_
          intro S13 t13
          refine V.cond (b := !x3) (iNT Iff.rfl) (iNF Iff.rfl) (by kernel_rfl) (fun q7 => ?_) (fun q8 => ?_)
          · skip
            have hz := Tm.reachF_at (rfl : Tm.reachF v leaf = Tm.reachF v leaf) (min x2.Left x2.Right)
            rw [hx3, hz] at q7
            have hnx := hdn.2.2.2.2.1; rw [q7] at hnx; simp only [Bool.false_eq_true, if_false] at hnx
            refine V.go [.k (iv (max x2.Left x2.Right)),
              .k (iv (max x2.Left x2.Right))] (fun _ _ => by kernel_rfl) fun _ _ G14 => ?_
            intro S14 t14
            refine nm (path ++ [max x2.Left x2.Right] : List Int) fun l1 hl1 => ?_
            have hl1n := congrArg List.length hl1; try simp only [List.length_append, List.length_cons, List.length_nil, List.length_replicate, List.length_set, List.length_take, List.length_drop, List.length_map, List.length_reverse, List.length_range] at hl1n
            refine V.reg [.k (paths.v),
              .k (iv (max x2.Left x2.Right)),
              .nr 2 true 3 [max x2.Left x2.Right] [] (fun _ _ _ _ _ => trivial) (fun _ => #[iv (max x2.Left x2.Right)]),
              .ap 3 1 3 8 false true path (fun _ => paths) (kf true (.g 2 0) [max x2.Left x2.Right] (fun G => ⟨atB (G 2).b, 1, 1⟩)) true l1 hl1 (by (try simp only [List.length_append, List.length_cons, List.length_nil, List.length_replicate, List.length_set, List.length_take, List.length_drop, List.length_map, List.length_reverse, List.length_range]); omega) (fun h => by cases h) (.inr fun _ _ => trivial),
              .v fun G => ((G 3).s).v] (fun _ _ => by kernel_rfl) fun _ _ G15 kw16 => ?_
            intro S15 t15
            obtain ⟨⟨kl4, -⟩, -⟩ : Lq [max x2.Left x2.Right] (SV.v ⟨atB (G15 2).b, 1, 1⟩) ∧ Lq l1 (((G15 3).s).v) ∧ True := kn kw16 (by kernel_rfl)
            clear kw16
            refine V.rnd hZ1 (l1, (G15 3).s, max x2.Left x2.Right) [0, 1] (by kernel_rfl) ?_ ?_
            · skip
              refine ⟨?_, ?_, ?_, ?_, ?_, ?_⟩
              · show 0 ≤ (max x2.Left x2.Right)
                omega
              · show (max x2.Left x2.Right) < (v.length : Int)
                omega
              · show Tm.near v leaf (max x2.Left x2.Right) = true
                rw [← hnx]; exact hdn.2.2.2.2.2.1
              · show leaf ≤ (max x2.Left x2.Right)
                rw [← hnx]; exact hdn.2.2.2.2.2.2.1
              · show (l1.length : Int) + (max x2.Left x2.Right) ≤ root + 1
                omega
              · show ∃ pre, l1 = pre ++ [(max x2.Left x2.Right)] ∧ Tm.rest v leaf root = pre ++ Tm.rest v leaf (max x2.Left x2.Right)
                obtain ⟨pre, hp1, hp2⟩ := hf6
                exact ⟨pre ++ [cur], by rw [hl1, hp1], by rw [hp2, hdn.2.2.2.2.2.2.2, hnx]; simp⟩
            · show (max x2.Left x2.Right).toNat < cur.toNat
              omega
          · skip
            have hz := Tm.reachF_at (rfl : Tm.reachF v leaf = Tm.reachF v leaf) (min x2.Left x2.Right)
            rw [hx3, hz] at q8
            have hnx := hdn.2.2.2.2.1; rw [q8] at hnx; simp only [if_true] at hnx
            refine nm (path ++ [min x2.Left x2.Right] : List Int) fun l2 hl2 => ?_
            have hl2n := congrArg List.length hl2; try simp only [List.length_append, List.length_cons, List.length_nil, List.length_replicate, List.length_set, List.length_take, List.length_drop, List.length_map, List.length_reverse, List.length_range] at hl2n
            refine V.reg [.k (paths.v),
              .k (iv (min x2.Left x2.Right)),
              .nr 2 true 3 [min x2.Left x2.Right] [] (fun _ _ _ _ _ => trivial) (fun _ => #[iv (min x2.Left x2.Right)]),
              .ap 3 1 3 8 false true path (fun _ => paths) (kf true (.g 2 0) [min x2.Left x2.Right] (fun G => ⟨atB (G 2).b, 1, 1⟩)) true l2 hl2 (by (try simp only [List.length_append, List.length_cons, List.length_nil, List.length_replicate, List.length_set, List.length_take, List.length_drop, List.length_map, List.length_reverse, List.length_range]); omega) (fun h => by cases h) (.inr fun _ _ => trivial),
              .v fun G => ((G 3).s).v] (fun _ _ => by kernel_rfl) fun _ _ G16 kw17 => ?_
            intro S16 t16
            obtain ⟨⟨kl5, -⟩, -⟩ : Lq [min x2.Left x2.Right] (SV.v ⟨atB (G16 2).b, 1, 1⟩) ∧ Lq l2 (((G16 3).s).v) ∧ True := kn kw17 (by kernel_rfl)
            clear kw17
            refine V.rnd hZ1 (l2, (G16 3).s, min x2.Left x2.Right) [0, 1] (by kernel_rfl) ?_ ?_
            · skip
              refine ⟨?_, ?_, ?_, ?_, ?_, ?_⟩
              · show 0 ≤ (min x2.Left x2.Right)
                omega
              · show (min x2.Left x2.Right) < (v.length : Int)
                omega
              · show Tm.near v leaf (min x2.Left x2.Right) = true
                rw [← hnx]; exact hdn.2.2.2.2.2.1
              · show leaf ≤ (min x2.Left x2.Right)
                rw [← hnx]; exact hdn.2.2.2.2.2.2.1
              · show (l2.length : Int) + (min x2.Left x2.Right) ≤ root + 1
                omega
              · show ∃ pre, l2 = pre ++ [(min x2.Left x2.Right)] ∧ Tm.rest v leaf root = pre ++ Tm.rest v leaf (min x2.Left x2.Right)
                obtain ⟨pre, hp1, hp2⟩ := hf6
                exact ⟨pre ++ [cur], by rw [hl2, hp1], by rw [hp2, hdn.2.2.2.2.2.2.2, hnx]; simp⟩
            · show (min x2.Left x2.Right).toNat < cur.toNat
              omega
        · skip
          refine V.go [.k (paths.v),
            .k (paths.v)] (fun _ _ => by kernel_rfl) fun _ _ G17 => ?_
          intro S17 t17
          refine V.frz 1 true 3 path paths (by kernel_rfl) ?_
          have e0 : path = Tm.pathF v root leaf := by
            obtain ⟨pre, hp1, hp2⟩ := hf6
            rw [Tm.pathF_yes hS (by unfold Tm.has; omega) (by unfold Tm.has; omega) hroot, hp2, hp1, show cur = leaf by omega, Tm.rest_self]
          subst e0
          exact V.ret [0] [paths] [fun _ => {}] [] [2] [] (paths.v) (fun _ _ => by kernel_rfl) (fun _ _ => by kernel_rfl) (fun _ _ => trivial)

set_option maxRecDepth 10000 in
theorem view_ct (v : List DThing) (vs : SV) (path : List Int) (paths : SV) (hp : path.length ≤ 5000000000000) :
    Ct Try.prog 22 #[ag (DVault.mk ⟨v, vs⟩), paths.v] [fs true v vs, fs true path paths] [] (fun g => ((g.ss 0)).v) (fun g => [fs true (Tm.viewF v path) (g.ss 0)]) (fun g => []) (fun g => []) := by
  refine V.fn mo Try.func22 49 2 (by kernel_rfl) fun w H ε k0 => ?_
  obtain ⟨⟨kl1, -⟩, ⟨kl2, -⟩, -⟩ : Lq v vs.v ∧ Lq path paths.v ∧ True := kn k0 (by kernel_rfl)
  clear k0
  refine V.go [.nb 0 0 (fun b => pp b 0) 24 (fun _ => ca (DVault.mk ⟨v, vs⟩)),
    .k (.slice none 0 0)] (fun _ _ => by kernel_rfl) fun _ _ G1 => ?_
  intro S1 t1
  refine V.go [.ld 0 0 true (fun _ => Dat.cells (DVault.mk ⟨v, vs⟩)),
    .k (paths.v),
    .cp g0 2 54 [(kf false (.f 0) v (fun _ => vs)).a, (kf false (.f 1) path (fun _ => paths)).a] (fun _ G => walks_ct v vs path paths),
    .k (bv (!(decide (Tm.Walks v path))))] (fun _ _ => by kernel_rfl) fun _ _ G2 => ?_
  intro S2 t2
  refine V.cond (b := !(decide (Tm.Walks v path))) (iNT iDF) (iNF iDT) (by kernel_rfl) (fun q1 => ?_) (fun q2 => ?_)
  · skip
    refine V.go [.k (.slice none 0 0)] (fun _ _ => by kernel_rfl) fun _ _ G3 => ?_
    intro S3 t3
    refine V.nilF (α := DThing) ?_
    have e0 : ([] : List DThing) = Tm.viewF v path := by
      exact (Tm.viewF_no q1).symm
    rw [← e0]
    exact V.ret [0] [{}] [fun _ => {}] [] [2] [] (SV.v ({})) (fun _ _ => by kernel_rfl) (fun _ _ => by kernel_rfl) (fun _ _ => trivial)
  · skip
    have hW := q2
    refine nm (List.replicate (path.length : Int).toNat (default : DThing) : List DThing) fun l1 hl1 => ?_
    have hl1n := congrArg List.length hl1; try simp only [List.length_append, List.length_cons, List.length_nil, List.length_replicate, List.length_set, List.length_take, List.length_drop, List.length_map, List.length_reverse, List.length_range] at hl1n
    refine V.go [.k (paths.v),
      .ln (kf false (.f 1) path (fun _ => paths)),
      .mks 2 1 44 48 (path.length : Int) l1 hl1 (by omega) (by omega) (by omega),
      .v fun G => ((G 2).s).v] (fun _ _ => by kernel_rfl) fun _ _ G4 => ?_
    intro S4 t4
    refine V.go [.k (paths.v),
      .ln (kf false (.f 1) path (fun _ => paths)),
      .k (iv 0)] (fun _ _ => by kernel_rfl) fun _ _ G5 => ?_
    intro S5 t5
    refine V.loop (γ := List DThing × SV × Int) (fun ⟨out, outs, k0⟩ => ⟨[(1, paths.v), (2, pp ((G1 0).b) 0), (5, outs.v), (15, paths.v), (16, iv (path.length : Int)), (17, iv k0)], [fs false path paths, fs false v vs], [.blk ((G1 0).b) (ca (DVault.mk ⟨v, vs⟩)) 24, os true 44 out outs]⟩) (fun ⟨out, outs, k0⟩ => (0 ≤ k0) ∧ (k0 ≤ (path.length : Int)) ∧ (out = Tm.viewW v path k0.toNat)) (fun ⟨out, outs, k0⟩ => ((path.length : Int) - k0).toNat) (l1, (G4 2).s, 0) (by kernel_rfl) [1, 0] (by kernel_rfl) ?_ ?_
    · skip
      refine ⟨?_, ?_, ?_⟩
      · show 0 ≤ (0 : Int)
        first | omega | rfl | (simp; done) | (subst_vars; simp; done)
      · show (0 : Int) ≤ (path.length : Int)
        first | omega | rfl | (simp; done) | (subst_vars; simp; done)
      · show l1 = Tm.viewW v path (0 : Int).toNat
        subst_vars
        exact (Tm.viewW_zero v path).symm
    · rintro ⟨out, outs, k0⟩ hF1 kw6 Z1 hZ1
      have hF1 : (0 ≤ k0) ∧ (k0 ≤ (path.length : Int)) ∧ (out = Tm.viewW v path k0.toNat) := hF1
      obtain ⟨hf1, hf2, hf3⟩ := hF1
      obtain ⟨-, -, ⟨kl3, -⟩, -⟩ : Lq path paths.v ∧ Lq v vs.v ∧ Lq out outs.v ∧ True := kn kw6 (by kernel_rfl)
      clear kw6
      have hol : out.length = path.length := by rw [hf3]; exact Tm.viewW_length (by omega)
      refine V.go [.k (bv (decide (k0 < (path.length : Int))))] (fun _ _ => by kernel_rfl) fun _ _ G6 => ?_
      intro S6 t6
      refine V.cond (b := decide (k0 < (path.length : Int))) iDT iDF (by kernel_rfl) (fun q3 => ?_) (fun q4 => ?_)
      · skip
        refine nm (path.getD k0.toNat default : Int) fun v1 hv1 => ?_
        refine V.go [.k (iv k0),
          .ix g0 (kf false (.f 0) path (fun _ => paths)) k0 (fun _ => ⟨by omega, by omega⟩),
          .le g0 (kf false (.f 0) path (fun _ => paths)) k0 none false v1 hv1 (fun _ => ⟨by omega, by omega⟩) false (fun _ => [iv v1]),
          .k (iv k0),
          .k (iv v1)] (fun _ _ => by kernel_rfl) fun _ _ G7 => ?_
        intro S7 t7
        refine nm (v.getD v1.toNat default : DThing) fun x1 hx1 => ?_
        refine nm (out.getD k0.toNat default : DThing) fun x2 hx2 => ?_
        refine nm (out.set k0.toNat x1 : List DThing) fun l2 hl2 => ?_
        have hl2n := congrArg List.length hl2; try simp only [List.length_append, List.length_cons, List.length_nil, List.length_replicate, List.length_set, List.length_take, List.length_drop, List.length_map, List.length_reverse, List.length_range] at hl2n
        have hwh := Tm.walks_has hW (k := k0) (by omega) (by omega) (by assumption)
        refine V.go [.k (outs.v),
          .k (iv k0),
          .k (pp ((G1 0).b) 0),
          .ld 0 0 false (fun _ => [vs.v]),
          .k (iv v1),
          .ix g0 (kf false (.f 1) v (fun _ => vs)) v1 (fun _ => ⟨by omega, by omega⟩),
          .le g0 (kf false (.f 1) v (fun _ => vs)) v1 none false x1 hx1 (fun _ => ⟨by omega, by omega⟩) true (fun _ => Dat.cells x1),
          .ix g0 (ko true 44 1 out (fun _ => outs)) k0 (fun _ => ⟨by omega, by omega⟩),
          .se g0 8 1 44 true out (fun _ => outs) k0 none x2 x1 hx2 true l2 hl2 (fun _ => ⟨by omega, by omega⟩) (fun _ => rfl) [] (fun _ _ _ _ => trivial)] (fun _ _ => by kernel_rfl) fun _ _ G8 => ?_
        intro S8 t8
        refine nm ((path.length : Int) - 1 : Int) fun n1 hn1 => ?_
        refine V.go [.k (iv k0),
          .k (bv (decide (0 < k0))),
          .k (bv (decide (0 < k0))),
          .k (iv k0),
          .k (paths.v),
          .ln (kf false (.f 0) path (fun _ => paths)),
          .arg (gT (b := decide (0 < k0)) iDT) ((path.length : Int) - 1) n1 hn1 (fun hg => by omega),
          .k (bv (decide (k0 < n1))),
          .and g0 false (decide (0 < k0)) (decide (k0 < n1))] (fun _ _ => by kernel_rfl) fun _ _ G9 => ?_
        intro S9 t9
        refine V.cond (b := (decide (0 < k0)) && (decide (k0 < n1))) (iAT iDT iDT) (iAF iDF iDF) (by kernel_rfl) (fun q5 => ?_) (fun q6 => ?_)
        · skip
          refine nm (l2.getD k0.toNat default : DThing) fun x3 hx3 => ?_
          refine nm (l2.set k0.toNat (DThing.mk x3.Text (-1) x3.Blind x3.Left x3.Right) : List DThing) fun l3 hl3 => ?_
          have hl3n := congrArg List.length hl3; try simp only [List.length_append, List.length_cons, List.length_nil, List.length_replicate, List.length_set, List.length_take, List.length_drop, List.length_map, List.length_reverse, List.length_range] at hl3n
          refine nm (l3.getD k0.toNat default : DThing) fun x4 hx4 => ?_
          refine nm (l3.set k0.toNat (DThing.mk x4.Text x4.Value (-1) x4.Left x4.Right) : List DThing) fun l4 hl4 => ?_
          have hl4n := congrArg List.length hl4; try simp only [List.length_append, List.length_cons, List.length_nil, List.length_replicate, List.length_set, List.length_take, List.length_drop, List.length_map, List.length_reverse, List.length_range] at hl4n
          refine V.go [.k (outs.v),
            .k (iv k0),
            .k (outs.v),
            .k (iv k0),
            .ix g0 (ko true 44 1 l2 (fun _ => outs)) k0 (fun _ => ⟨by omega, by omega⟩),
            .k (.pointer (some ((elemAddr outs.v (k0.toNat * 5)).add 1))),
            .se g0 6 1 44 true l2 (fun _ => outs) k0 (some 1) x3 (DThing.mk x3.Text (-1) x3.Blind x3.Left x3.Right) hx3 true l3 hl3 (fun _ => ⟨by omega, by omega⟩) (fun _ => rfl) [] (fun _ _ _ _ => trivial),
            .ix g0 (ko true 44 1 l3 (fun _ => outs)) k0 (fun _ => ⟨by omega, by omega⟩),
            .k (.pointer (some ((elemAddr outs.v (k0.toNat * 5)).add 2))),
            .se g0 9 1 44 true l3 (fun _ => outs) k0 (some 2) x4 (DThing.mk x4.Text x4.Value (-1) x4.Left x4.Right) hx4 true l4 hl4 (fun _ => ⟨by omega, by omega⟩) (fun _ => rfl) [] (fun _ _ _ _ => trivial)] (fun _ _ => by kernel_rfl) fun _ _ G10 => ?_
          intro S10 t10
          refine V.go [.a (k0 + 1) (by omega) (by omega),
            .k (iv (k0 + 1))] (fun _ _ => by kernel_rfl) fun _ _ G11 => ?_
          intro S11 t11
          refine V.rnd hZ1 (l4, outs, k0 + 1) [0, 1] (by kernel_rfl) ?_ ?_
          · skip
            refine ⟨?_, ?_, ?_⟩
            · show 0 ≤ (k0 + 1)
              first | omega | rfl | (simp; done) | (subst_vars; simp; done)
            · show (k0 + 1) ≤ (path.length : Int)
              first | omega | rfl | (simp; done) | (subst_vars; simp; done)
            · show l4 = Tm.viewW v path (k0 + 1).toNat
              exact Tm.view_mid (k := k0) (by omega) (by omega) (by assumption) (by assumption) hf3 (by assumption) (by assumption) (by assumption) (by assumption) (by assumption) rfl (by omega)
          · show ((path.length : Int) - (k0 + 1)).toNat < ((path.length : Int) - k0).toNat
            omega
        · skip
          refine V.go [.a (k0 + 1) (by omega) (by omega),
            .k (iv (k0 + 1))] (fun _ _ => by kernel_rfl) fun _ _ G12 => ?_
          intro S12 t12
          refine V.rnd hZ1 (l2, outs, k0 + 1) [0, 1] (by kernel_rfl) ?_ ?_
          · skip
            refine ⟨?_, ?_, ?_⟩
            · show 0 ≤ (k0 + 1)
              first | omega | rfl | (simp; done) | (subst_vars; simp; done)
            · show (k0 + 1) ≤ (path.length : Int)
              first | omega | rfl | (simp; done) | (subst_vars; simp; done)
            · show l2 = Tm.viewW v path (k0 + 1).toNat
              exact Tm.view_end (k := k0) (by omega) (by omega) (by assumption) (by assumption) hf3 (by assumption) rfl (by omega)
          · show ((path.length : Int) - (k0 + 1)).toNat < ((path.length : Int) - k0).toNat
            omega
      · skip
        refine V.go [.k (outs.v),
          .k (outs.v)] (fun _ _ => by kernel_rfl) fun _ _ G13 => ?_
        intro S13 t13
        refine V.frz 1 true 44 out outs (by kernel_rfl) ?_
        have e0 : out = Tm.viewF v path := by
          exact Tm.viewF_yes hW hf3 (by omega)
        subst e0
        exact V.ret [0] [outs] [fun _ => {}] [] [2] [] (outs.v) (fun _ _ => by kernel_rfl) (fun _ _ => by kernel_rfl) (fun _ _ => trivial)

set_option maxRecDepth 10000 in
theorem clone_ct (s : List DThing) (ss : SV) (hb : s.length ≤ 1000000000) :
    Ct Try.prog 43 #[ss.v] [fs true s ss] [] (fun g => ((g.ss 0)).v) (fun g => []) (fun g => [os true 44 s (g.ss 0)]) (fun g => []) := by
  refine V.fn mo Try.func43 8 2 (by kernel_rfl) fun w H ε k0 => ?_
  obtain ⟨⟨kl1, kn1⟩, -⟩ : Lq s ss.v ∧ True := kn k0 (by kernel_rfl)
  clear k0
  refine V.go [.k (.slice none 0 0)] (fun _ _ => by kernel_rfl) fun _ _ G1 => ?_
  intro S1 t1
  refine V.go [.k (ss.v),
    .isn false (fun _ => ss)] (fun _ _ => by kernel_rfl) fun _ _ G2 => ?_
  intro S2 t2
  refine V.cond (b := ss.a.isNone) Iff.rfl Iff.rfl (by kernel_rfl) (fun q1 => ?_) (fun q2 => ?_)
  · skip
    refine V.go [.k (.slice none 0 0)] (fun _ _ => by kernel_rfl) fun _ _ G3 => ?_
    intro S3 t3
    refine V.on (α := DThing) 0 44 (by kernel_rfl) ?_
    have e0 : ([] : List DThing) = s := by
      exact (kn1 _ rfl q1).symm
    rw [← e0]
    exact V.ret [0] [{}] [fun _ => {}] [] [] [0] (SV.v ({})) (fun _ _ => by kernel_rfl) (fun _ _ => by kernel_rfl) (fun _ _ => trivial)
  · skip
    refine nm (([] : List DThing) ++ s : List DThing) fun l1 hl1 => ?_
    have hl1n := congrArg List.length hl1; try simp only [List.length_append, List.length_cons, List.length_nil, List.length_replicate, List.length_set, List.length_take, List.length_drop, List.length_map, List.length_reverse, List.length_range] at hl1n
    refine V.go [.nl 0 1 true 44 ([] : List DThing) [] (fun _ _ _ _ _ => trivial) (fun _ => #[]),
      .k (ss.v),
      .ap 2 1 44 48 false true ([] : List DThing) (fun G => ⟨atB (G 0).b, 0, 0⟩) (kf false (.f 0) s (fun _ => ss)) true l1 hl1 (by (try simp only [List.length_append, List.length_cons, List.length_nil, List.length_replicate, List.length_set, List.length_take, List.length_drop, List.length_map, List.length_reverse, List.length_range]); omega) (fun h => by cases h) (.inr fun _ _ => trivial),
      .v fun G => ((G 2).s).v] (fun _ _ => by kernel_rfl) fun _ _ G4 => ?_
    intro S4 t4
    have e0 : l1 = s := by
      rw [hl1]; simp
    subst e0
    exact V.ret [0] [(G4 2).s] [fun _ => {}] [] [] [1] (((G4 2).s).v) (fun _ _ => by kernel_rfl) (fun _ _ => by kernel_rfl) (fun _ _ => trivial)

set_option maxRecDepth 10000 in
theorem clonei_ct (s : List Int) (ss : SV) (hb : s.length ≤ 1000000000) :
    Ct Try.prog 45 #[ss.v] [fs true s ss] [] (fun g => ((g.ss 0)).v) (fun g => []) (fun g => [os true 3 s (g.ss 0)]) (fun g => []) := by
  refine V.fn mo Try.func45 8 2 (by kernel_rfl) fun w H ε k0 => ?_
  obtain ⟨⟨kl1, kn1⟩, -⟩ : Lq s ss.v ∧ True := kn k0 (by kernel_rfl)
  clear k0
  refine V.go [.k (.slice none 0 0)] (fun _ _ => by kernel_rfl) fun _ _ G1 => ?_
  intro S1 t1
  refine V.go [.k (ss.v),
    .isn false (fun _ => ss)] (fun _ _ => by kernel_rfl) fun _ _ G2 => ?_
  intro S2 t2
  refine V.cond (b := ss.a.isNone) Iff.rfl Iff.rfl (by kernel_rfl) (fun q1 => ?_) (fun q2 => ?_)
  · skip
    refine V.go [.k (.slice none 0 0)] (fun _ _ => by kernel_rfl) fun _ _ G3 => ?_
    intro S3 t3
    refine V.on (α := Int) 0 3 (by kernel_rfl) ?_
    have e0 : ([] : List Int) = s := by
      exact (kn1 _ rfl q1).symm
    rw [← e0]
    exact V.ret [0] [{}] [fun _ => {}] [] [] [0] (SV.v ({})) (fun _ _ => by kernel_rfl) (fun _ _ => by kernel_rfl) (fun _ _ => trivial)
  · skip
    refine nm (([] : List Int) ++ s : List Int) fun l1 hl1 => ?_
    have hl1n := congrArg List.length hl1; try simp only [List.length_append, List.length_cons, List.length_nil, List.length_replicate, List.length_set, List.length_take, List.length_drop, List.length_map, List.length_reverse, List.length_range] at hl1n
    refine V.go [.nl 0 1 true 3 ([] : List Int) [] (fun _ _ _ _ _ => trivial) (fun _ => #[]),
      .k (ss.v),
      .ap 2 1 3 8 false true ([] : List Int) (fun G => ⟨atB (G 0).b, 0, 0⟩) (kf false (.f 0) s (fun _ => ss)) true l1 hl1 (by (try simp only [List.length_append, List.length_cons, List.length_nil, List.length_replicate, List.length_set, List.length_take, List.length_drop, List.length_map, List.length_reverse, List.length_range]); omega) (fun h => by cases h) (.inr fun _ _ => trivial),
      .v fun G => ((G 2).s).v] (fun _ _ => by kernel_rfl) fun _ _ G4 => ?_
    intro S4 t4
    have e0 : l1 = s := by
      rw [hl1]; simp
    subst e0
    exact V.ret [0] [(G4 2).s] [fun _ => {}] [] [] [1] (((G4 2).s).v) (fun _ _ => by kernel_rfl) (fun _ _ => by kernel_rfl) (fun _ _ => trivial)

set_option maxRecDepth 10000 in
theorem add_ct (bb : Nat) (bl : List DThing) (bls : SV) (x_Text : ByteArray) (x_Value x_Blind x_Left x_Right : Int) (hb : bl.length ≤ 100000) :
    Ct Try.prog 44 #[pp bb 0, ag (DThing.mk x_Text x_Value x_Blind x_Left x_Right)] [] [.blk bb (ca (Dbuilder.mk (DVault.mk ⟨bl, bls⟩))) 68, os false 44 bl bls] (fun g => iv (bl.length : Int)) (fun g => []) (fun g => [.blk bb (ca (Dbuilder.mk (DVault.mk ⟨bl ++ [DThing.mk x_Text x_Value x_Blind x_Left x_Right], (g.ss 0)⟩))) 68, os true 44 (bl ++ [DThing.mk x_Text x_Value x_Blind x_Left x_Right]) (g.ss 0)]) (fun g => []) := by
  refine V.fn mo Try.func44 24 1 (by kernel_rfl) fun w H ε k0 => ?_
  obtain ⟨⟨kl1, -⟩, -⟩ : Lq bl bls.v ∧ True := kn k0 (by kernel_rfl)
  clear k0
  refine V.go [.nb 0 2 (fun b => pp b 0) 44 (fun _ => ca (DThing.mk x_Text x_Value x_Blind x_Left x_Right)),
    .k (iv 0)] (fun _ _ => by kernel_rfl) fun _ _ G1 => ?_
  intro S1 t1
  refine nm (bl ++ ([DThing.mk x_Text x_Value x_Blind x_Left x_Right] : List DThing) : List DThing) fun l1 hl1 => ?_
  have hl1n := congrArg List.length hl1; try simp only [List.length_append, List.length_cons, List.length_nil, List.length_replicate, List.length_set, List.length_take, List.length_drop, List.length_map, List.length_reverse, List.length_range] at hl1n
  refine V.reg [.k (pp bb 0),
    .k (pp bb 0),
    .k (pp bb 0),
    .k (pp bb 0),
    .k (pp bb 0),
    .ld 0 0 false (fun _ => [bls.v]),
    .ld 2 0 true (fun _ => Dat.cells (DThing.mk x_Text x_Value x_Blind x_Left x_Right)),
    .nr 7 true 44 ([DThing.mk x_Text x_Value x_Blind x_Left x_Right] : List DThing) [] (fun _ _ _ _ _ => trivial) (fun _ => #[tv x_Text, iv x_Value, iv x_Blind, iv x_Left, iv x_Right]),
    .ap 8 1 44 48 false false bl (fun _ => bls) (kf true (.g 7 0) ([DThing.mk x_Text x_Value x_Blind x_Left x_Right] : List DThing) (fun G => ⟨atB (G 7).b, 1, 1⟩)) true l1 hl1 (by (try simp only [List.length_append, List.length_cons, List.length_nil, List.length_replicate, List.length_set, List.length_take, List.length_drop, List.length_map, List.length_reverse, List.length_range]); omega) (fun h => by cases h) (.inr fun _ _ => trivial),
    .k (pp bb 0),
    .k (pp bb 0),
    .k (pp bb 0),
    .st 0 (fun G => .blk bb (ca (Dbuilder.mk (DVault.mk ⟨l1, (G 8).s⟩))) 68)] (fun _ _ => by kernel_rfl) fun _ _ G2 kw2 => ?_
  intro S2 t2
  obtain ⟨⟨kl2, -⟩, -⟩ : Lq ([DThing.mk x_Text x_Value x_Blind x_Left x_Right] : List DThing) (SV.v ⟨atB (G2 7).b, 1, 1⟩) ∧ Lq l1 (((G2 8).s).v) ∧ True := kn kw2 (by kernel_rfl)
  clear kw2
  refine nm ((l1.length : Int) - 1 : Int) fun n1 hn1 => ?_
  refine V.go [.k (pp bb 0),
    .k (pp bb 0),
    .k (pp bb 0),
    .k (pp bb 0),
    .ld 0 0 false (fun _ => [((G2 8).s).v]),
    .ln (ko true 44 1 l1 (fun _ => (G2 8).s)),
    .ar ((l1.length : Int) - 1) n1 hn1 (by omega) (by omega),
    .k (iv n1)] (fun _ _ => by kernel_rfl) fun _ _ G3 => ?_
  intro S3 t3
  have e0 : n1 = (bl.length : Int) := by
    omega
  have eL1 : l1 = bl ++ [DThing.mk x_Text x_Value x_Blind x_Left x_Right] := by
    assumption
  subst eL1
  exact V.ret [0] [(G2 8).s] [] [] [] [0, 1] (iv n1) (fun _ _ => by kernel_rfl) (fun _ _ => (Eq.trans (by kernel_rfl) (cong1 (fun (x0 : Int) => (iv x0 : Value)) e0)).trans (by kernel_rfl)) (fun _ _ => trivial)

set_option maxRecDepth 10000 in
theorem bpair_ct (bb : Nat) (bl : List DThing) (bls : SV) (left right : Int) (hb : bl.length ≤ 90000) (h1 : 0 ≤ left ∧ left < (bl.length : Int)) (h2 : 0 ≤ right ∧ right < (bl.length : Int)) (hB1 : Tm.Bd (Tm.el bl left)) (hB2 : Tm.Bd (Tm.el bl right)) :
    Ct Try.prog 46 #[pp bb 0, iv left, iv right] [] [.blk bb (ca (Dbuilder.mk (DVault.mk ⟨bl, bls⟩))) 68, os false 44 bl bls] (fun g => iv (bl.length : Int)) (fun g => []) (fun g => [.blk bb (ca (Dbuilder.mk (DVault.mk ⟨bl ++ [Tm.pairX bl left right], (g.ss 0)⟩))) 68, os true 44 (bl ++ [Tm.pairX bl left right]) (g.ss 0)]) (fun g => []) := by
  refine V.fn mo Try.func46 40 2 (by kernel_rfl) fun w H ε k0 => ?_
  obtain ⟨⟨kl1, -⟩, -⟩ : Lq bl bls.v ∧ True := kn k0 (by kernel_rfl)
  clear k0
  refine V.go [.k (iv 0)] (fun _ _ => by kernel_rfl) fun _ _ G1 => ?_
  intro S1 t1
  refine nm (bl.getD left.toNat default : DThing) fun x1 hx1 => ?_
  refine nm (bl.getD right.toNat default : DThing) fun x2 hx2 => ?_
  refine V.go [.k (pp bb 0),
    .k (pp bb 0),
    .k (pp bb 0),
    .k (pp bb 0),
    .ld 0 0 false (fun _ => [bls.v]),
    .k (iv left),
    .ix g0 (ko false 44 1 bl (fun _ => bls)) left (fun _ => ⟨by omega, by omega⟩),
    .le g0 (ko false 44 1 bl (fun _ => bls)) left none false x1 hx1 (fun _ => ⟨by omega, by omega⟩) true (fun _ => Dat.cells x1),
    .k (pp bb 0),
    .k (pp bb 0),
    .k (pp bb 0),
    .k (pp bb 0),
    .ld 0 0 false (fun _ => [bls.v]),
    .k (iv right),
    .ix g0 (ko false 44 1 bl (fun _ => bls)) right (fun _ => ⟨by omega, by omega⟩),
    .le g0 (ko false 44 1 bl (fun _ => bls)) right none false x2 hx2 (fun _ => ⟨by omega, by omega⟩) true (fun _ => Dat.cells x2),
    .nb 16 2 (fun b => pp b 0) 44 (fun _ => ca (DThing.mk ByteArray.empty 0 0 0 0)),
    .nb 17 3 (fun b => pp b 0) 44 (fun _ => ca (DThing.mk ByteArray.empty 0 0 0 0)),
    .st 2 (fun G => .blk ((G 16).b) (ca x1) 44),
    .st 3 (fun G => .blk ((G 17).b) (ca x2) 44)] (fun _ _ => by kernel_rfl) fun _ _ G2 => ?_
  intro S2 t2
  have hb1 := hB1; have hb2 := hB2; unfold Tm.Bd Tm.el at hb1 hb2
  rw [← hx1] at hb1; rw [← hx2] at hb2
  refine nm (x1.Value + x2.Value : Int) fun n1 hn1 => ?_
  refine nm (x1.Blind + x2.Blind : Int) fun n2 hn2 => ?_
  refine V.go [.k (pp bb 0),
    .k (pp ((G2 16).b) 1),
    .ld 2 1 false (fun _ => [iv x1.Value]),
    .k (pp ((G2 17).b) 1),
    .ld 3 1 false (fun _ => [iv x2.Value]),
    .ar (x1.Value + x2.Value) n1 hn1 (by omega) (by omega),
    .k (pp ((G2 16).b) 2),
    .ld 2 2 false (fun _ => [iv x1.Blind]),
    .k (pp ((G2 17).b) 2),
    .ld 3 2 false (fun _ => [iv x2.Blind]),
    .ar (x1.Blind + x2.Blind) n2 hn2 (by omega) (by omega),
    .k (iv left),
    .k (iv right),
    .k (ag (DThing.mk ByteArray.empty n1 n2 left right)),
    .ct g0 14 44 false [0, 1] [] [] (fun _ G => add_ct bb bl bls ByteArray.empty n1 n2 left right (by omega)),
    .k (iv (bl.length : Int))] (fun _ _ => by kernel_rfl) fun _ _ G3 => ?_
  intro S3 t3
  have eL1 : bl ++ [DThing.mk ByteArray.empty n1 n2 left right] = bl ++ [Tm.pairX bl left right] := by
    subst_vars; rfl
  rw [← eL1]
  exact V.ret [0] [(G3 14).ss 0] [] [] [] [0, 1] (iv (bl.length : Int)) (fun _ _ => by kernel_rfl) (fun _ _ => by kernel_rfl) (fun _ _ => trivial)

end Kb
